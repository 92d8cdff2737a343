/-
  SUPERBLOCK (chapter 36): numbers and bytes, both ways.
-/
import Derived.Test.YtcjjlajpbakaoaaGreatDoorD36ap
namespace Go.Proofs.YtcjjlajpbakaoaaGreatDoor
open Go.Va

theorem byt_toNat (n s : Nat) : (byt n s).toNat = n / 2 ^ s % 256 := by
  unfold byt; simp
theorem byt_eq {n s : Nat} {u : UInt8} (h : n / 2 ^ s % 256 = u.toNat) : byt n s = u := by
  apply UInt8.toNat_inj.1
  rw [byt_toNat, h]
theorem valB_be1 (n : Nat) (h : n < 256) : valB (be1 n) = n := by
  show 0 * 256 + (byt n 0).toNat = n
  rw [byt_toNat]; omega
theorem valB_be4 (n : Nat) (h : n < 4294967296) : valB (be4 n) = n := by
  show (((0 * 256 + (byt n 24).toNat) * 256 + (byt n 16).toNat) * 256 + (byt n 8).toNat) * 256 + (byt n 0).toNat = n
  simp only [byt_toNat]; omega
theorem valB_be8 (n : Nat) (h : n < 18446744073709551616) : valB (be8 n) = n := by
  show (((((((0 * 256 + (byt n 56).toNat) * 256 + (byt n 48).toNat) * 256 + (byt n 40).toNat) * 256 + (byt n 32).toNat) * 256 + (byt n 24).toNat) * 256 + (byt n 16).toNat) * 256 + (byt n 8).toNat) * 256 + (byt n 0).toNat = n
  simp only [byt_toNat]; omega
theorem be4_valB : ∀ (q : List UInt8), q.length = 4 → be4 (valB q) = q
  | [a, b, c, d], _ => by
    have ha : a.toNat < 256 := a.toNat_lt; have hb : b.toNat < 256 := b.toNat_lt; have hc : c.toNat < 256 := c.toNat_lt; have hd : d.toNat < 256 := d.toNat_lt
    have e : valB [a, b, c, d] = (((0 * 256 + a.toNat) * 256 + b.toNat) * 256 + c.toNat) * 256 + d.toNat := rfl
    unfold be4
    rw [e, byt_eq (u := a) (by omega), byt_eq (u := b) (by omega), byt_eq (u := c) (by omega), byt_eq (u := d) (by omega)]
theorem be8_valB : ∀ (q : List UInt8), q.length = 8 → be8 (valB q) = q
  | [a, b, c, d, a', b', c', d'], _ => by
    have ha : a.toNat < 256 := a.toNat_lt; have hb : b.toNat < 256 := b.toNat_lt; have hc : c.toNat < 256 := c.toNat_lt; have hd : d.toNat < 256 := d.toNat_lt
    have ha' : a'.toNat < 256 := a'.toNat_lt; have hb' : b'.toNat < 256 := b'.toNat_lt; have hc' : c'.toNat < 256 := c'.toNat_lt; have hd' : d'.toNat < 256 := d'.toNat_lt
    have e : valB [a, b, c, d, a', b', c', d'] = (((((((0 * 256 + a.toNat) * 256 + b.toNat) * 256 + c.toNat) * 256 + d.toNat) * 256 + a'.toNat) * 256 + b'.toNat) * 256 + c'.toNat) * 256 + d'.toNat := rfl
    unfold be8
    rw [e, byt_eq (u := a) (by omega), byt_eq (u := b) (by omega), byt_eq (u := c) (by omega), byt_eq (u := d) (by omega), byt_eq (u := a') (by omega), byt_eq (u := b') (by omega), byt_eq (u := c') (by omega), byt_eq (u := d') (by omega)]
theorem be8_beq (q : List UInt8) (e : Nat) (hq : q.length = 8) (he : e < 18446744073709551616) : (q == be8 e) = (valB q == e) := by
  by_cases h : valB q = e
  · rw [h, ← h, be8_valB q hq, beq_self_eq_true, beq_self_eq_true]
  · rw [beq_eq_false_iff_ne.2 h, beq_eq_false_iff_ne.2]
    intro h2
    exact h (by rw [h2]; exact valB_be8 e he)
theorem valB_lt : ∀ (q : List UInt8), valB q < 256 ^ q.length := by
  have : ∀ (q : List UInt8) (n k : Nat), n < 256 ^ k → q.foldl (fun n b => n * 256 + b.toNat) n < 256 ^ (k + q.length) := by
    intro q
    induction q with
    | nil => intro n k h; exact h
    | cons b q ih =>
      intro n k h
      have hb : b.toNat < 256 := b.toNat_lt
      rw [List.foldl_cons, List.length_cons, show k + (q.length + 1) = (k + 1) + q.length by omega]
      apply ih
      rw [Nat.pow_succ]
      omega
  intro q
  have := this q 0 0 (by decide)
  rw [Nat.zero_add] at this
  exact this

/-! ## The document's Unseal of 29 bytes, and Unstamp -/

def rD : Ktab := (109, k109) :: (68, k111) :: (60, k60) :: t3
theorem rD_ok : TOk Tryz.prog 9 tabs rD := ⟨k109_ok, k68_ok, k60_ok, t3_ok⟩
theorem unsealR_raw (c c6 : List Value) (g : Nat) (b : Bool) (a1 : ∀ σ, (envT rD).ov 60 [L (c.take ((25 : Int).toNat * 1)) 25 1 11] 0 σ = some (L c6 29 1 0, σ)) (a2 : ∀ σ, (envT rD).ov 68 [L c6 29 1 0, L c 29 1 g] 0 σ = some (.bool b, σ)) (hv : PF (.tuple #[strip (L (c.take ((25 : Int).toNat * 1)) 25 1 11), .int .i64 0])) :
    Pure Tryz.prog 9 tabs 67 [L c 29 1 g] (bif b then .tuple #[strip (L (c.take ((25 : Int).toNat * 1)) 25 1 11), .int .i64 0] else .tuple #[.slice none 0 0, .int .i64 12]) := by
  cases b with
  | true =>
    exact pureXH rD_ok (n := 600) (v := .tuple #[L (c.take ((25 : Int).toNat * 1)) 25 1 11, .int .i64 0]) [(15, .ov (L c6 29 1 0)), (1, .ov (.bool true))]
      [∀ σ, (envT rD).ov 60 [L (c.take ((25 : Int).toNat * 1)) 25 1 11] 0 σ = some (L c6 29 1 0, σ), ∀ σ, (envT rD).ov 68 [L c6 29 1 0, L c 29 1 g] 0 σ = some (.bool true, σ)] (by kernel_rfl) ⟨a1, a2⟩ (shed_pair _ _) hv
  | false =>
    exact pureT rD_ok (n := 600) (v := .tuple #[.slice none 0 0, .int .i64 12]) [(15, .ov (L c6 29 1 0)), (1, .ov (.bool false))]
      [∀ σ, (envT rD).ov 60 [L (c.take ((25 : Int).toNat * 1)) 25 1 11] 0 σ = some (L c6 29 1 0, σ), ∀ σ, (envT rD).ov 68 [L c6 29 1 0, L c 29 1 g] 0 σ = some (.bool false, σ)] (by kernel_rfl) ⟨a1, a2⟩ rfl (plain_PF 100 _ rfl)
theorem bys_take (l : List UInt8) (n : Nat) : (bys l).take n = bys (l.take n) := by unfold bys; simp
theorem bys_drop (l : List UInt8) (n : Nat) : (bys l).drop n = bys (l.drop n) := by unfold bys; simp
theorem ovD_68 (l m : List UInt8) (n n' g g' : Nat) (hl : l.length = n) (hm : m.length = n') (hn : n < 1000000) (hn' : n' < 1000000) (hg : g ≤ 1) (hg' : g' ≤ 1) (lim : Nat) (σ : AS) :
    (envT rD).ov 68 [L (bys l) n 1 g, L (bys m) n' 1 g'] lim σ = some (.bool (l == m), σ) := by
  subst hl hm
  refine envK rfl rfl (show [strip (L (bys l) l.length 1 g), strip (L (bys m) m.length 1 g')] = [L (bys l) l.length 1 g, L (bys m) m.length 1 g'] by rw [strip_le hg, strip_le hg']) ?_ ?_
  · show (flatB 100 (L (bys l) l.length 1 g) && (flatB 100 (L (bys m) m.length 1 g') && true)) = true
    rw [flat_L hg, flat_L hg']; rfl
  · show k111 [L (bys l) l.length 1 g, L (bys m) m.length 1 g'] = _
    unfold k111
    dsimp only
    rw [asB_L hg (by omega), asB_L hg' (by omega)]
theorem p67 (l : List UInt8) (g : Nat) (hg : g ≤ 1) (hl : l.length = 29) : Pure Tryz.prog 9 tabs 67 [L (bys l) 29 1 g] (bif sealL (l.take 25) == l then .tuple #[L (bys (l.take 25)) 25 1 0, .int .i64 0] else .tuple #[.slice none 0 0, .int .i64 12]) := by
  have hf : (bys l).take ((25 : Int).toNat * 1) = bys (l.take 25) := bys_take l 25
  have hl25 : (l.take 25).length = 25 := by simp; omega
  have hs : (sealL (l.take 25)).length = 29 := by simp [sealL, be4]; omega
  have a1 : ∀ σ, (envT rD).ov 60 [L ((bys l).take ((25 : Int).toNat * 1)) 25 1 11] 0 σ = some (L (bys (sealL (l.take 25))) 29 1 0, σ) := fun σ => by
    rw [hf]
    refine envK rfl rfl (show [strip (L (bys (l.take 25)) 25 1 11)] = [L (bys (l.take 25)) (l.take 25).length 1 0] by rw [hl25]; rfl) ?_ ?_
    · show (flatB 100 (L (bys (l.take 25)) (l.take 25).length 1 0) && true) = true
      rw [flat_L (by omega)]; rfl
    · show k60 [L (bys (l.take 25)) (l.take 25).length 1 0] = _
      unfold k60
      dsimp only
      rw [asL_L', asB_L (by omega) (by omega)]
      dsimp only
      rw [hl25]
      rfl
  have := unsealR_raw (bys l) (bys (sealL (l.take 25))) g (sealL (l.take 25) == l) a1 (ovD_68 _ l 29 29 0 g hs hl (by omega) (by omega) (by omega) hg 0) (by
    rw [hf]; exact PF_pair (PF_list (by omega) (bys_PF _)) (.int _ _))
  rw [hf] at this
  exact this
def k67 : List Value → Option Value
  | [v] => (match asL v, asB v with
    | some _, some l => bif Nat.beq l.length 29 then some (bif sealL (l.take 25) == l then .tuple #[L (bys (l.take 25)) 25 1 0, .int .i64 0] else .tuple #[.slice none 0 0, .int .i64 12]) else none
    | _, _ => none)
  | _ => none
theorem k67_ok : KOk Tryz.prog 9 tabs 67 k67 := by
  intro args u h
  unfold k67 at h
  split at h
  · rename_i v
    split at h
    · rename_i x l hL hB
      rcases asB_spec hB with ⟨rfl, _⟩ | ⟨g, hg, rfl, _⟩
      · cases hL
      · cases hb : Nat.beq l.length 29 with
        | false => rw [hb] at h; cases h
        | true =>
          rw [hb, cond_true] at h
          cases h
          have h29 := Nat.eq_of_beq_eq_true hb
          rw [h29]
          exact p67 l g hg h29
    · cases h
  · cases h
def ucut (c : List Value) (a b : Nat) : List Value := (c.drop (a * 1)).take ((b - a) * 1)
theorem unR_ok (e : Int) (c c1 : List Value) (m g : Nat) (h1 : decide (e ≥ 1) = true) (h2 : (!decide (e ≤ 1099511627776)) = false) (h3 : decide ((m : Int) < 128) = false)
    (a1 : ∀ σ, (envT rD).ov 109 [.int .i64 e, .int .i64 8] 0 σ = some (L c1 8 1 0, σ)) (a2 : ∀ σ, (envT rD).ov 68 [L (c.take ((8 : Int).toNat * 1)) 8 1 0, L c1 8 1 0] 0 σ = some (.bool true, σ))
    (a3 : ∀ σ, (envT rD).ov 68 [L (ucut c 120 128) 8 1 0, L c1 8 1 0] 0 σ = some (.bool true, σ)) (hv : PF (.tuple #[strip (L (ucut c 8 120) 112 1 11), .int .i64 0])) :
    Pure Tryz.prog 9 tabs 66 [L c m 1 g, .int .i64 e] (.tuple #[strip (L (ucut c 8 120) 112 1 11), .int .i64 0]) :=
  pureXH rD_ok (n := 600) (v := .tuple #[L (ucut c 8 120) 112 1 11, .int .i64 0]) [(7, .br true), (5, .br false), (3, .br false), (1, .ok), (1, .ov (L c1 8 1 0)), (0, .ov (.bool true)), (4, .ok), (1, .ov (L c1 8 1 0)), (0, .ov (.bool true)), (5, .ok)]
    [decide (e ≥ 1) = true, (!decide (e ≤ 1099511627776)) = false, decide ((m : Int) < 128) = false, (0 : Int) ≤ 8 ∧ (8 : Int) ≤ m, ∀ σ, (envT rD).ov 109 [.int .i64 e, .int .i64 8] 0 σ = some (L c1 8 1 0, σ), ∀ σ, (envT rD).ov 68 [L (c.take ((8 : Int).toNat * 1)) 8 1 0, L c1 8 1 0] 0 σ = some (.bool true, σ),
      (0 : Int) ≤ 120 ∧ (120 : Int) ≤ 128 ∧ (128 : Int) ≤ m, ∀ σ, (envT rD).ov 109 [.int .i64 e, .int .i64 8] 0 σ = some (L c1 8 1 0, σ), ∀ σ, (envT rD).ov 68 [L (ucut c 120 128) 8 1 0, L c1 8 1 0] 0 σ = some (.bool true, σ), (0 : Int) ≤ 8 ∧ (8 : Int) ≤ 120 ∧ (120 : Int) ≤ m] (by kernel_rfl)
    ⟨h1, h2, h3, by have := of_decide_eq_false h3; omega, a1, a2, by have := of_decide_eq_false h3; omega, a1, a3, (show (0 : Int) ≤ 8 ∧ (8 : Int) ≤ 120 ∧ (120 : Int) ≤ m by have := of_decide_eq_false h3; omega)⟩ (shed_pair _ _) hv
theorem unR_no1 (e : Int) (c c1 : List Value) (m g : Nat) (h1 : decide (e ≥ 1) = true) (h2 : (!decide (e ≤ 1099511627776)) = false) (h3 : decide ((m : Int) < 128) = false)
    (a1 : ∀ σ, (envT rD).ov 109 [.int .i64 e, .int .i64 8] 0 σ = some (L c1 8 1 0, σ)) (a2 : ∀ σ, (envT rD).ov 68 [L (c.take ((8 : Int).toNat * 1)) 8 1 0, L c1 8 1 0] 0 σ = some (.bool false, σ)) :
    Pure Tryz.prog 9 tabs 66 [L c m 1 g, .int .i64 e] (.tuple #[.slice none 0 0, .int .i64 13]) :=
  pureT rD_ok (n := 600) (v := .tuple #[.slice none 0 0, .int .i64 13]) [(7, .br true), (5, .br false), (3, .br false), (1, .ok), (1, .ov (L c1 8 1 0)), (0, .ov (.bool false))]
    [decide (e ≥ 1) = true, (!decide (e ≤ 1099511627776)) = false, decide ((m : Int) < 128) = false, (0 : Int) ≤ 8 ∧ (8 : Int) ≤ m, ∀ σ, (envT rD).ov 109 [.int .i64 e, .int .i64 8] 0 σ = some (L c1 8 1 0, σ), ∀ σ, (envT rD).ov 68 [L (c.take ((8 : Int).toNat * 1)) 8 1 0, L c1 8 1 0] 0 σ = some (.bool false, σ)] (by kernel_rfl)
    ⟨h1, h2, h3, by have := of_decide_eq_false h3; omega, a1, a2⟩ rfl (plain_PF 100 _ rfl)
theorem unR_no2 (e : Int) (c c1 : List Value) (m g : Nat) (h1 : decide (e ≥ 1) = true) (h2 : (!decide (e ≤ 1099511627776)) = false) (h3 : decide ((m : Int) < 128) = false)
    (a1 : ∀ σ, (envT rD).ov 109 [.int .i64 e, .int .i64 8] 0 σ = some (L c1 8 1 0, σ)) (a2 : ∀ σ, (envT rD).ov 68 [L (c.take ((8 : Int).toNat * 1)) 8 1 0, L c1 8 1 0] 0 σ = some (.bool true, σ))
    (a3 : ∀ σ, (envT rD).ov 68 [L (ucut c 120 128) 8 1 0, L c1 8 1 0] 0 σ = some (.bool false, σ)) :
    Pure Tryz.prog 9 tabs 66 [L c m 1 g, .int .i64 e] (.tuple #[.slice none 0 0, .int .i64 13]) :=
  pureT rD_ok (n := 600) (v := .tuple #[.slice none 0 0, .int .i64 13]) [(7, .br true), (5, .br false), (3, .br false), (1, .ok), (1, .ov (L c1 8 1 0)), (0, .ov (.bool true)), (4, .ok), (1, .ov (L c1 8 1 0)), (0, .ov (.bool false))]
    [decide (e ≥ 1) = true, (!decide (e ≤ 1099511627776)) = false, decide ((m : Int) < 128) = false, (0 : Int) ≤ 8 ∧ (8 : Int) ≤ m, ∀ σ, (envT rD).ov 109 [.int .i64 e, .int .i64 8] 0 σ = some (L c1 8 1 0, σ), ∀ σ, (envT rD).ov 68 [L (c.take ((8 : Int).toNat * 1)) 8 1 0, L c1 8 1 0] 0 σ = some (.bool true, σ),
      (0 : Int) ≤ 120 ∧ (120 : Int) ≤ 128 ∧ (128 : Int) ≤ m, ∀ σ, (envT rD).ov 109 [.int .i64 e, .int .i64 8] 0 σ = some (L c1 8 1 0, σ), ∀ σ, (envT rD).ov 68 [L (ucut c 120 128) 8 1 0, L c1 8 1 0] 0 σ = some (.bool false, σ)] (by kernel_rfl)
    ⟨h1, h2, h3, by have := of_decide_eq_false h3; omega, a1, a2, by have := of_decide_eq_false h3; omega, a1, a3⟩ rfl (plain_PF 100 _ rfl)
theorem p66 (l : List UInt8) (e g : Nat) (h1 : 1 ≤ e) (h2 : e ≤ 1099511627776) (hl : 128 ≤ l.length) :
    Pure Tryz.prog 9 tabs 66 [L (bys l) l.length 1 g, .int .i64 (e : Int)] (bif stamped e l then .tuple #[L (bys ((l.drop 8).take 112)) 112 1 0, .int .i64 0] else .tuple #[.slice none 0 0, .int .i64 13]) := by
  have b1 : decide ((e : Int) ≥ 1) = true := decide_eq_true (by omega)
  have b2 : (!decide ((e : Int) ≤ 1099511627776)) = false := by rw [decide_eq_true (by omega)]; rfl
  have b3 : decide ((l.length : Int) < 128) = false := decide_eq_false (by omega)
  have hb : (be8 e).length = 8 := rfl
  have e1 : (bys l).take ((8 : Int).toNat * 1) = bys ((l.drop 0).take 8) := by rw [List.drop_zero]; exact bys_take l 8
  have e2 : ucut (bys l) 120 128 = bys ((l.drop 120).take 8) := by unfold ucut; rw [bys_drop, bys_take]
  have e3 : ucut (bys l) 8 120 = bys ((l.drop 8).take 112) := by unfold ucut; rw [bys_drop, bys_take]
  have q1 : ((l.drop 0).take 8).length = 8 := by simp; omega
  have q2 : ((l.drop 120).take 8).length = 8 := by simp; omega
  have a1 : ∀ σ, (envT rD).ov 109 [.int .i64 (e : Int), .int .i64 8] 0 σ = some (L (bys (be8 e)) 8 1 0, σ) := fun σ => by
    refine envK rfl rfl (show _ = [Value.int .i64 (e : Int), .int .i64 8] from rfl) rfl ?_
    unfold rD
    rw [pfT_eq]
    show (bif decide (0 ≤ (e : Int)) && decide ((8 : Int) = 8) then some (L (bys (be8 (e : Int).toNat)) 8 1 0) else none) = _
    rw [decide_eq_true (show 0 ≤ (e : Int) by omega), Int.toNat_natCast]
    rfl
  have a2 : ∀ σ, (envT rD).ov 68 [L ((bys l).take ((8 : Int).toNat * 1)) 8 1 0, L (bys (be8 e)) 8 1 0] 0 σ = some (.bool (valB ((l.drop 0).take 8) == e), σ) := fun σ => by
    rw [e1, ← be8_beq _ e q1 (by omega)]
    exact ovD_68 _ _ 8 8 0 0 q1 hb (by omega) (by omega) (by omega) (by omega) 0 σ
  have a3 : ∀ σ, (envT rD).ov 68 [L (ucut (bys l) 120 128) 8 1 0, L (bys (be8 e)) 8 1 0] 0 σ = some (.bool (valB ((l.drop 120).take 8) == e), σ) := fun σ => by
    rw [e2, ← be8_beq _ e q2 (by omega)]
    exact ovD_68 _ _ 8 8 0 0 q2 hb (by omega) (by omega) (by omega) (by omega) 0 σ
  unfold stamped
  cases c1 : (valB ((l.drop 0).take 8) == e) with
  | false =>
    rw [c1] at a2
    exact unR_no1 e (bys l) _ l.length g b1 b2 b3 a1 a2
  | true =>
    rw [c1] at a2
    cases c2 : (valB ((l.drop 120).take 8) == e) with
    | false =>
      rw [c2] at a3
      exact unR_no2 e (bys l) _ l.length g b1 b2 b3 a1 a2 a3
    | true =>
      rw [c2] at a3
      have := unR_ok e (bys l) _ l.length g b1 b2 b3 a1 a2 a3 (by rw [e3]; exact PF_pair (PF_list (by omega) (bys_PF _)) (.int _ _))
      rw [e3] at this
      exact this
def k66 : List Value → Option Value
  | [v, .int .i64 e] => (match asL v, asB v with
    | some _, some l => bif decide (1 ≤ e) && decide (e ≤ 1099511627776) && Nat.ble 128 l.length then
        some (bif stamped e.toNat l then .tuple #[L (bys ((l.drop 8).take 112)) 112 1 0, .int .i64 0] else .tuple #[.slice none 0 0, .int .i64 13]) else none
    | _, _ => none)
  | _ => none
theorem k66_ok : KOk Tryz.prog 9 tabs 66 k66 := by
  intro args u h
  unfold k66 at h
  split at h
  · rename_i v e
    split at h
    · rename_i x l hL hB
      rcases asB_spec hB with ⟨rfl, _⟩ | ⟨g, hg, rfl, _⟩
      · cases hL
      · cases hb : (decide (1 ≤ e) && decide (e ≤ 1099511627776) && Nat.ble 128 l.length) with
        | false => rw [hb] at h; cases h
        | true =>
          rw [hb, cond_true] at h
          cases h
          simp only [Bool.and_eq_true, decide_eq_true_eq] at hb
          obtain ⟨⟨h0, h1⟩, h2⟩ := hb
          have h2 : 128 ≤ l.length := Nat.ble_eq ▸ h2
          obtain ⟨k, rfl⟩ := Int.eq_ofNat_of_zero_le (show 0 ≤ e by omega)
          rw [Int.toNat_natCast]
          exact p66 l k g (by omega) (by omega) h2
    · cases h
  · cases h

end Go.Proofs.YtcjjlajpbakaoaaGreatDoor
