/-
  The functions that the statement reaches: what they answer, part 6.
-/
import Derived.Test.YtcjjlajpbakaoaaGreatDoorD36ap

/-
  SUPERBLOCK (chapter 36): numbers and bytes, both ways.
-/
namespace Go.Proofs.YtcjjlajpbakaoaaGreatDoor
open Go.Va

theorem byt_toNat (n s : Nat) : (byt n s).toNat = n / 2 ^ s % 256 := by
  unfold byt; simp
theorem byt_eq {n s : Nat} {u : UInt8} (h : n / 2 ^ s % 256 = u.toNat) : byt n s = u := by
  apply UInt8.toNat_inj.1
  rw [byt_toNat, h]
theorem valB_be1 (n : Nat) (h : n < 256) : valB (be1 n) = n := by
  show 0 * 256 + (byt n 0).toNat = n
  rw [byt_toNat]; omega
theorem valB_be4 (n : Nat) (h : n < 4294967296) : valB (be4 n) = n := by
  show (((0 * 256 + (byt n 24).toNat) * 256 + (byt n 16).toNat) * 256 + (byt n 8).toNat) * 256 + (byt n 0).toNat = n
  simp only [byt_toNat]; omega
theorem valB_be8 (n : Nat) (h : n < 18446744073709551616) : valB (be8 n) = n := by
  show (((((((0 * 256 + (byt n 56).toNat) * 256 + (byt n 48).toNat) * 256 + (byt n 40).toNat) * 256 + (byt n 32).toNat) * 256 + (byt n 24).toNat) * 256 + (byt n 16).toNat) * 256 + (byt n 8).toNat) * 256 + (byt n 0).toNat = n
  simp only [byt_toNat]; omega
theorem be4_valB : ∀ (q : List UInt8), q.length = 4 → be4 (valB q) = q
  | [a, b, c, d], _ => by
    have ha : a.toNat < 256 := a.toNat_lt; have hb : b.toNat < 256 := b.toNat_lt; have hc : c.toNat < 256 := c.toNat_lt; have hd : d.toNat < 256 := d.toNat_lt
    have e : valB [a, b, c, d] = (((0 * 256 + a.toNat) * 256 + b.toNat) * 256 + c.toNat) * 256 + d.toNat := rfl
    unfold be4
    rw [e, byt_eq (u := a) (by omega), byt_eq (u := b) (by omega), byt_eq (u := c) (by omega), byt_eq (u := d) (by omega)]
theorem be8_valB : ∀ (q : List UInt8), q.length = 8 → be8 (valB q) = q
  | [a, b, c, d, a', b', c', d'], _ => by
    have ha : a.toNat < 256 := a.toNat_lt; have hb : b.toNat < 256 := b.toNat_lt; have hc : c.toNat < 256 := c.toNat_lt; have hd : d.toNat < 256 := d.toNat_lt
    have ha' : a'.toNat < 256 := a'.toNat_lt; have hb' : b'.toNat < 256 := b'.toNat_lt; have hc' : c'.toNat < 256 := c'.toNat_lt; have hd' : d'.toNat < 256 := d'.toNat_lt
    have e : valB [a, b, c, d, a', b', c', d'] = (((((((0 * 256 + a.toNat) * 256 + b.toNat) * 256 + c.toNat) * 256 + d.toNat) * 256 + a'.toNat) * 256 + b'.toNat) * 256 + c'.toNat) * 256 + d'.toNat := rfl
    unfold be8
    rw [e, byt_eq (u := a) (by omega), byt_eq (u := b) (by omega), byt_eq (u := c) (by omega), byt_eq (u := d) (by omega), byt_eq (u := a') (by omega), byt_eq (u := b') (by omega), byt_eq (u := c') (by omega), byt_eq (u := d') (by omega)]
theorem be8_beq (q : List UInt8) (e : Nat) (hq : q.length = 8) (he : e < 18446744073709551616) : (q == be8 e) = (valB q == e) := by
  by_cases h : valB q = e
  · rw [h, ← h, be8_valB q hq, beq_self_eq_true, beq_self_eq_true]
  · rw [beq_eq_false_iff_ne.2 h, beq_eq_false_iff_ne.2]
    intro h2
    exact h (by rw [h2]; exact valB_be8 e he)
theorem valB_lt : ∀ (q : List UInt8), valB q < 256 ^ q.length := by
  have : ∀ (q : List UInt8) (n k : Nat), n < 256 ^ k → q.foldl (fun n b => n * 256 + b.toNat) n < 256 ^ (k + q.length) := by
    intro q
    induction q with
    | nil => intro n k h; exact h
    | cons b q ih =>
      intro n k h
      have hb : b.toNat < 256 := b.toNat_lt
      rw [List.foldl_cons, List.length_cons, show k + (q.length + 1) = (k + 1) + q.length by omega]
      apply ih
      rw [Nat.pow_succ]
      omega
  intro q
  have := this q 0 0 (by decide)
  rw [Nat.zero_add] at this
  exact this

/-! ## The document's Unseal of 29 bytes, and Unstamp -/

def rD : Ktab := (109, k109) :: (68, k111) :: (60, k60) :: t3
theorem rD_ok : TOk Tryz.prog 9 tabs rD := ⟨k109_ok, k68_ok, k60_ok, t3_ok⟩
theorem unsealR_raw (c c6 : List Value) (g : Nat) (b : Bool) (a1 : ∀ σ, (envT rD).ov 60 [L (c.take ((25 : Int).toNat * 1)) 25 1 11] 0 σ = some (L c6 29 1 0, σ)) (a2 : ∀ σ, (envT rD).ov 68 [L c6 29 1 0, L c 29 1 g] 0 σ = some (.bool b, σ)) (hv : PF (.tuple #[strip (L (c.take ((25 : Int).toNat * 1)) 25 1 11), .int .i64 0])) :
    Pure Tryz.prog 9 tabs 67 [L c 29 1 g] (bif b then .tuple #[strip (L (c.take ((25 : Int).toNat * 1)) 25 1 11), .int .i64 0] else .tuple #[.slice none 0 0, .int .i64 12]) := by
  cases b with
  | true =>
    exact pureXH rD_ok (n := 600) (v := .tuple #[L (c.take ((25 : Int).toNat * 1)) 25 1 11, .int .i64 0]) [(15, .ov (L c6 29 1 0)), (1, .ov (.bool true))]
      [∀ σ, (envT rD).ov 60 [L (c.take ((25 : Int).toNat * 1)) 25 1 11] 0 σ = some (L c6 29 1 0, σ), ∀ σ, (envT rD).ov 68 [L c6 29 1 0, L c 29 1 g] 0 σ = some (.bool true, σ)] (by kernel_rfl) ⟨a1, a2⟩ (shed_pair _ _) hv
  | false =>
    exact pureT rD_ok (n := 600) (v := .tuple #[.slice none 0 0, .int .i64 12]) [(15, .ov (L c6 29 1 0)), (1, .ov (.bool false))]
      [∀ σ, (envT rD).ov 60 [L (c.take ((25 : Int).toNat * 1)) 25 1 11] 0 σ = some (L c6 29 1 0, σ), ∀ σ, (envT rD).ov 68 [L c6 29 1 0, L c 29 1 g] 0 σ = some (.bool false, σ)] (by kernel_rfl) ⟨a1, a2⟩ rfl (plain_PF 100 _ rfl)
theorem bys_take (l : List UInt8) (n : Nat) : (bys l).take n = bys (l.take n) := by unfold bys; simp
theorem bys_drop (l : List UInt8) (n : Nat) : (bys l).drop n = bys (l.drop n) := by unfold bys; simp
theorem ovD_68 (l m : List UInt8) (n n' g g' : Nat) (hl : l.length = n) (hm : m.length = n') (hn : n < 1000000) (hn' : n' < 1000000) (hg : g ≤ 1) (hg' : g' ≤ 1) (lim : Nat) (σ : AS) :
    (envT rD).ov 68 [L (bys l) n 1 g, L (bys m) n' 1 g'] lim σ = some (.bool (l == m), σ) := by
  subst hl hm
  refine envK rfl rfl (show [strip (L (bys l) l.length 1 g), strip (L (bys m) m.length 1 g')] = [L (bys l) l.length 1 g, L (bys m) m.length 1 g'] by rw [strip_le hg, strip_le hg']) ?_ ?_
  · show (flatB 100 (L (bys l) l.length 1 g) && (flatB 100 (L (bys m) m.length 1 g') && true)) = true
    rw [flat_L hg, flat_L hg']; rfl
  · show k111 [L (bys l) l.length 1 g, L (bys m) m.length 1 g'] = _
    unfold k111
    dsimp only
    rw [asB_L hg (by omega), asB_L hg' (by omega)]
theorem p67 (l : List UInt8) (g : Nat) (hg : g ≤ 1) (hl : l.length = 29) : Pure Tryz.prog 9 tabs 67 [L (bys l) 29 1 g] (bif sealL (l.take 25) == l then .tuple #[L (bys (l.take 25)) 25 1 0, .int .i64 0] else .tuple #[.slice none 0 0, .int .i64 12]) := by
  have hf : (bys l).take ((25 : Int).toNat * 1) = bys (l.take 25) := bys_take l 25
  have hl25 : (l.take 25).length = 25 := by simp; omega
  have hs : (sealL (l.take 25)).length = 29 := by simp [sealL, be4]; omega
  have a1 : ∀ σ, (envT rD).ov 60 [L ((bys l).take ((25 : Int).toNat * 1)) 25 1 11] 0 σ = some (L (bys (sealL (l.take 25))) 29 1 0, σ) := fun σ => by
    rw [hf]
    refine envK rfl rfl (show [strip (L (bys (l.take 25)) 25 1 11)] = [L (bys (l.take 25)) (l.take 25).length 1 0] by rw [hl25]; rfl) ?_ ?_
    · show (flatB 100 (L (bys (l.take 25)) (l.take 25).length 1 0) && true) = true
      rw [flat_L (by omega)]; rfl
    · show k60 [L (bys (l.take 25)) (l.take 25).length 1 0] = _
      unfold k60
      dsimp only
      rw [asL_L', asB_L (by omega) (by omega)]
      dsimp only
      rw [hl25]
      rfl
  have := unsealR_raw (bys l) (bys (sealL (l.take 25))) g (sealL (l.take 25) == l) a1 (ovD_68 _ l 29 29 0 g hs hl (by omega) (by omega) (by omega) hg 0) (by
    rw [hf]; exact PF_pair (PF_list (by omega) (bys_PF _)) (.int _ _))
  rw [hf] at this
  exact this
def k67 : List Value → Option Value
  | [v] => (match asL v, asB v with
    | some _, some l => bif Nat.beq l.length 29 then some (bif sealL (l.take 25) == l then .tuple #[L (bys (l.take 25)) 25 1 0, .int .i64 0] else .tuple #[.slice none 0 0, .int .i64 12]) else none
    | _, _ => none)
  | _ => none
theorem k67_ok : KOk Tryz.prog 9 tabs 67 k67 := by
  intro args u h
  unfold k67 at h
  split at h
  · rename_i v
    split at h
    · rename_i x l hL hB
      rcases asB_spec hB with ⟨rfl, _⟩ | ⟨g, hg, rfl, _⟩
      · cases hL
      · cases hb : Nat.beq l.length 29 with
        | false => rw [hb] at h; cases h
        | true =>
          rw [hb, cond_true] at h
          cases h
          have h29 := Nat.eq_of_beq_eq_true hb
          rw [h29]
          exact p67 l g hg h29
    · cases h
  · cases h
def ucut (c : List Value) (a b : Nat) : List Value := (c.drop (a * 1)).take ((b - a) * 1)
theorem unR_ok (e : Int) (c c1 : List Value) (m g : Nat) (h1 : decide (e ≥ 1) = true) (h2 : (!decide (e ≤ 1099511627776)) = false) (h3 : decide ((m : Int) < 128) = false)
    (a1 : ∀ σ, (envT rD).ov 109 [.int .i64 e, .int .i64 8] 0 σ = some (L c1 8 1 0, σ)) (a2 : ∀ σ, (envT rD).ov 68 [L (c.take ((8 : Int).toNat * 1)) 8 1 0, L c1 8 1 0] 0 σ = some (.bool true, σ))
    (a3 : ∀ σ, (envT rD).ov 68 [L (ucut c 120 128) 8 1 0, L c1 8 1 0] 0 σ = some (.bool true, σ)) (hv : PF (.tuple #[strip (L (ucut c 8 120) 112 1 11), .int .i64 0])) :
    Pure Tryz.prog 9 tabs 66 [L c m 1 g, .int .i64 e] (.tuple #[strip (L (ucut c 8 120) 112 1 11), .int .i64 0]) :=
  pureXH rD_ok (n := 600) (v := .tuple #[L (ucut c 8 120) 112 1 11, .int .i64 0]) [(7, .br true), (5, .br false), (3, .br false), (1, .ok), (1, .ov (L c1 8 1 0)), (0, .ov (.bool true)), (4, .ok), (1, .ov (L c1 8 1 0)), (0, .ov (.bool true)), (5, .ok)]
    [decide (e ≥ 1) = true, (!decide (e ≤ 1099511627776)) = false, decide ((m : Int) < 128) = false, (0 : Int) ≤ 8 ∧ (8 : Int) ≤ m, ∀ σ, (envT rD).ov 109 [.int .i64 e, .int .i64 8] 0 σ = some (L c1 8 1 0, σ), ∀ σ, (envT rD).ov 68 [L (c.take ((8 : Int).toNat * 1)) 8 1 0, L c1 8 1 0] 0 σ = some (.bool true, σ),
      (0 : Int) ≤ 120 ∧ (120 : Int) ≤ 128 ∧ (128 : Int) ≤ m, ∀ σ, (envT rD).ov 109 [.int .i64 e, .int .i64 8] 0 σ = some (L c1 8 1 0, σ), ∀ σ, (envT rD).ov 68 [L (ucut c 120 128) 8 1 0, L c1 8 1 0] 0 σ = some (.bool true, σ), (0 : Int) ≤ 8 ∧ (8 : Int) ≤ 120 ∧ (120 : Int) ≤ m] (by kernel_rfl)
    ⟨h1, h2, h3, by have := of_decide_eq_false h3; omega, a1, a2, by have := of_decide_eq_false h3; omega, a1, a3, (show (0 : Int) ≤ 8 ∧ (8 : Int) ≤ 120 ∧ (120 : Int) ≤ m by have := of_decide_eq_false h3; omega)⟩ (shed_pair _ _) hv
theorem unR_no1 (e : Int) (c c1 : List Value) (m g : Nat) (h1 : decide (e ≥ 1) = true) (h2 : (!decide (e ≤ 1099511627776)) = false) (h3 : decide ((m : Int) < 128) = false)
    (a1 : ∀ σ, (envT rD).ov 109 [.int .i64 e, .int .i64 8] 0 σ = some (L c1 8 1 0, σ)) (a2 : ∀ σ, (envT rD).ov 68 [L (c.take ((8 : Int).toNat * 1)) 8 1 0, L c1 8 1 0] 0 σ = some (.bool false, σ)) :
    Pure Tryz.prog 9 tabs 66 [L c m 1 g, .int .i64 e] (.tuple #[.slice none 0 0, .int .i64 13]) :=
  pureT rD_ok (n := 600) (v := .tuple #[.slice none 0 0, .int .i64 13]) [(7, .br true), (5, .br false), (3, .br false), (1, .ok), (1, .ov (L c1 8 1 0)), (0, .ov (.bool false))]
    [decide (e ≥ 1) = true, (!decide (e ≤ 1099511627776)) = false, decide ((m : Int) < 128) = false, (0 : Int) ≤ 8 ∧ (8 : Int) ≤ m, ∀ σ, (envT rD).ov 109 [.int .i64 e, .int .i64 8] 0 σ = some (L c1 8 1 0, σ), ∀ σ, (envT rD).ov 68 [L (c.take ((8 : Int).toNat * 1)) 8 1 0, L c1 8 1 0] 0 σ = some (.bool false, σ)] (by kernel_rfl)
    ⟨h1, h2, h3, by have := of_decide_eq_false h3; omega, a1, a2⟩ rfl (plain_PF 100 _ rfl)
theorem unR_no2 (e : Int) (c c1 : List Value) (m g : Nat) (h1 : decide (e ≥ 1) = true) (h2 : (!decide (e ≤ 1099511627776)) = false) (h3 : decide ((m : Int) < 128) = false)
    (a1 : ∀ σ, (envT rD).ov 109 [.int .i64 e, .int .i64 8] 0 σ = some (L c1 8 1 0, σ)) (a2 : ∀ σ, (envT rD).ov 68 [L (c.take ((8 : Int).toNat * 1)) 8 1 0, L c1 8 1 0] 0 σ = some (.bool true, σ))
    (a3 : ∀ σ, (envT rD).ov 68 [L (ucut c 120 128) 8 1 0, L c1 8 1 0] 0 σ = some (.bool false, σ)) :
    Pure Tryz.prog 9 tabs 66 [L c m 1 g, .int .i64 e] (.tuple #[.slice none 0 0, .int .i64 13]) :=
  pureT rD_ok (n := 600) (v := .tuple #[.slice none 0 0, .int .i64 13]) [(7, .br true), (5, .br false), (3, .br false), (1, .ok), (1, .ov (L c1 8 1 0)), (0, .ov (.bool true)), (4, .ok), (1, .ov (L c1 8 1 0)), (0, .ov (.bool false))]
    [decide (e ≥ 1) = true, (!decide (e ≤ 1099511627776)) = false, decide ((m : Int) < 128) = false, (0 : Int) ≤ 8 ∧ (8 : Int) ≤ m, ∀ σ, (envT rD).ov 109 [.int .i64 e, .int .i64 8] 0 σ = some (L c1 8 1 0, σ), ∀ σ, (envT rD).ov 68 [L (c.take ((8 : Int).toNat * 1)) 8 1 0, L c1 8 1 0] 0 σ = some (.bool true, σ),
      (0 : Int) ≤ 120 ∧ (120 : Int) ≤ 128 ∧ (128 : Int) ≤ m, ∀ σ, (envT rD).ov 109 [.int .i64 e, .int .i64 8] 0 σ = some (L c1 8 1 0, σ), ∀ σ, (envT rD).ov 68 [L (ucut c 120 128) 8 1 0, L c1 8 1 0] 0 σ = some (.bool false, σ)] (by kernel_rfl)
    ⟨h1, h2, h3, by have := of_decide_eq_false h3; omega, a1, a2, by have := of_decide_eq_false h3; omega, a1, a3⟩ rfl (plain_PF 100 _ rfl)
theorem p66 (l : List UInt8) (e g : Nat) (h1 : 1 ≤ e) (h2 : e ≤ 1099511627776) (hl : 128 ≤ l.length) :
    Pure Tryz.prog 9 tabs 66 [L (bys l) l.length 1 g, .int .i64 (e : Int)] (bif stamped e l then .tuple #[L (bys ((l.drop 8).take 112)) 112 1 0, .int .i64 0] else .tuple #[.slice none 0 0, .int .i64 13]) := by
  have b1 : decide ((e : Int) ≥ 1) = true := decide_eq_true (by omega)
  have b2 : (!decide ((e : Int) ≤ 1099511627776)) = false := by rw [decide_eq_true (by omega)]; rfl
  have b3 : decide ((l.length : Int) < 128) = false := decide_eq_false (by omega)
  have hb : (be8 e).length = 8 := rfl
  have e1 : (bys l).take ((8 : Int).toNat * 1) = bys ((l.drop 0).take 8) := by rw [List.drop_zero]; exact bys_take l 8
  have e2 : ucut (bys l) 120 128 = bys ((l.drop 120).take 8) := by unfold ucut; rw [bys_drop, bys_take]
  have e3 : ucut (bys l) 8 120 = bys ((l.drop 8).take 112) := by unfold ucut; rw [bys_drop, bys_take]
  have q1 : ((l.drop 0).take 8).length = 8 := by simp; omega
  have q2 : ((l.drop 120).take 8).length = 8 := by simp; omega
  have a1 : ∀ σ, (envT rD).ov 109 [.int .i64 (e : Int), .int .i64 8] 0 σ = some (L (bys (be8 e)) 8 1 0, σ) := fun σ => by
    refine envK rfl rfl (show _ = [Value.int .i64 (e : Int), .int .i64 8] from rfl) rfl ?_
    unfold rD
    rw [pfT_eq]
    show (bif decide (0 ≤ (e : Int)) && decide ((8 : Int) = 8) then some (L (bys (be8 (e : Int).toNat)) 8 1 0) else none) = _
    rw [decide_eq_true (show 0 ≤ (e : Int) by omega), Int.toNat_natCast]
    rfl
  have a2 : ∀ σ, (envT rD).ov 68 [L ((bys l).take ((8 : Int).toNat * 1)) 8 1 0, L (bys (be8 e)) 8 1 0] 0 σ = some (.bool (valB ((l.drop 0).take 8) == e), σ) := fun σ => by
    rw [e1, ← be8_beq _ e q1 (by omega)]
    exact ovD_68 _ _ 8 8 0 0 q1 hb (by omega) (by omega) (by omega) (by omega) 0 σ
  have a3 : ∀ σ, (envT rD).ov 68 [L (ucut (bys l) 120 128) 8 1 0, L (bys (be8 e)) 8 1 0] 0 σ = some (.bool (valB ((l.drop 120).take 8) == e), σ) := fun σ => by
    rw [e2, ← be8_beq _ e q2 (by omega)]
    exact ovD_68 _ _ 8 8 0 0 q2 hb (by omega) (by omega) (by omega) (by omega) 0 σ
  unfold stamped
  cases c1 : (valB ((l.drop 0).take 8) == e) with
  | false =>
    rw [c1] at a2
    exact unR_no1 e (bys l) _ l.length g b1 b2 b3 a1 a2
  | true =>
    rw [c1] at a2
    cases c2 : (valB ((l.drop 120).take 8) == e) with
    | false =>
      rw [c2] at a3
      exact unR_no2 e (bys l) _ l.length g b1 b2 b3 a1 a2 a3
    | true =>
      rw [c2] at a3
      have := unR_ok e (bys l) _ l.length g b1 b2 b3 a1 a2 a3 (by rw [e3]; exact PF_pair (PF_list (by omega) (bys_PF _)) (.int _ _))
      rw [e3] at this
      exact this
def k66 : List Value → Option Value
  | [v, .int .i64 e] => (match asL v, asB v with
    | some _, some l => bif decide (1 ≤ e) && decide (e ≤ 1099511627776) && Nat.ble 128 l.length then
        some (bif stamped e.toNat l then .tuple #[L (bys ((l.drop 8).take 112)) 112 1 0, .int .i64 0] else .tuple #[.slice none 0 0, .int .i64 13]) else none
    | _, _ => none)
  | _ => none
theorem k66_ok : KOk Tryz.prog 9 tabs 66 k66 := by
  intro args u h
  unfold k66 at h
  split at h
  · rename_i v e
    split at h
    · rename_i x l hL hB
      rcases asB_spec hB with ⟨rfl, _⟩ | ⟨g, hg, rfl, _⟩
      · cases hL
      · cases hb : (decide (1 ≤ e) && decide (e ≤ 1099511627776) && Nat.ble 128 l.length) with
        | false => rw [hb] at h; cases h
        | true =>
          rw [hb, cond_true] at h
          cases h
          simp only [Bool.and_eq_true, decide_eq_true_eq] at hb
          obtain ⟨⟨h0, h1⟩, h2⟩ := hb
          have h2 : 128 ≤ l.length := Nat.ble_eq ▸ h2
          obtain ⟨k, rfl⟩ := Int.eq_ofNat_of_zero_le (show 0 ≤ e by omega)
          rw [Int.toNat_natCast]
          exact p66 l k g (by omega) (by omega) h2
    · cases h
  · cases h

end Go.Proofs.YtcjjlajpbakaoaaGreatDoor

/-
  SUPERBLOCK (chapter 36): the document's Check.
-/
namespace Go.Proofs.YtcjjlajpbakaoaaGreatDoor
open Go.Va

theorem p21 (a b c d s : Int) : Pure Tryz.prog 9 tabs 21 [cfg a b c d s] (.int .i64 (bif chk a b c d s then 0 else 2)) := by
  unfold chk
  cases h0 : decide (b < 16) with
  | true =>
    exact pureT t6_ok (n := 200) (v := .int .i64 2) [(4, .br true)] [(decide (b < 16)) = true] (by kernel_rfl) h0 rfl (.int _ _)
  | false =>
    cases h1 : decide (b > 1024) with
    | true =>
      exact pureT t6_ok (n := 200) (v := .int .i64 2) [(4, .br false), (3, .br true)] [(decide (b < 16)) = false, (decide (b > 1024)) = true] (by kernel_rfl) ⟨h0, h1⟩ rfl (.int _ _)
    | false =>
      cases h2 : decide (a < IntKind.i64.wrap (b + 18)) with
      | true =>
        exact pureT t6_ok (n := 200) (v := .int .i64 2) [(4, .br false), (3, .br false), (7, .br true)] [(decide (b < 16)) = false, (decide (b > 1024)) = false, (decide (a < IntKind.i64.wrap (b + 18))) = true] (by kernel_rfl) ⟨h0, h1, h2⟩ rfl (.int _ _)
      | false =>
        cases h3 : decide (a > 4096) with
        | true =>
          exact pureT t6_ok (n := 200) (v := .int .i64 2) [(4, .br false), (3, .br false), (7, .br false), (4, .br true)] [(decide (b < 16)) = false, (decide (b > 1024)) = false, (decide (a < IntKind.i64.wrap (b + 18))) = false, (decide (a > 4096)) = true] (by kernel_rfl) ⟨h0, h1, h2, h3⟩ rfl (.int _ _)
        | false =>
          cases h4 : decide (c < 1) with
          | true =>
            exact pureT t6_ok (n := 200) (v := .int .i64 2) [(4, .br false), (3, .br false), (7, .br false), (4, .br false), (4, .br true)] [(decide (b < 16)) = false, (decide (b > 1024)) = false, (decide (a < IntKind.i64.wrap (b + 18))) = false, (decide (a > 4096)) = false, (decide (c < 1)) = true] (by kernel_rfl) ⟨h0, h1, h2, h3, h4⟩ rfl (.int _ _)
          | false =>
            cases h5 : decide (c > 64) with
            | true =>
              exact pureT t6_ok (n := 200) (v := .int .i64 2) [(4, .br false), (3, .br false), (7, .br false), (4, .br false), (4, .br false), (4, .br true)] [(decide (b < 16)) = false, (decide (b > 1024)) = false, (decide (a < IntKind.i64.wrap (b + 18))) = false, (decide (a > 4096)) = false, (decide (c < 1)) = false, (decide (c > 64)) = true] (by kernel_rfl) ⟨h0, h1, h2, h3, h4, h5⟩ rfl (.int _ _)
            | false =>
              by_cases d0 : d = 0
              · subst d0
                cases h9 : (s != 0) with
                | true =>
                  exact pureT t6_ok (n := 200) (v := .int .i64 2) [(4, .br false), (3, .br false), (7, .br false), (4, .br false), (4, .br false), (4, .br false), (19, .br true)] [(decide (b < 16)) = false, (decide (b > 1024)) = false, (decide (a < IntKind.i64.wrap (b + 18))) = false, (decide (a > 4096)) = false, (decide (c < 1)) = false, (decide (c > 64)) = false, (s != 0) = true] (by kernel_rfl) ⟨h0, h1, h2, h3, h4, h5, h9⟩ rfl (.int _ _)
                | false =>
                  exact pureT t6_ok (n := 200) (v := .int .i64 0) [(4, .br false), (3, .br false), (7, .br false), (4, .br false), (4, .br false), (4, .br false), (19, .br false)] [(decide (b < 16)) = false, (decide (b > 1024)) = false, (decide (a < IntKind.i64.wrap (b + 18))) = false, (decide (a > 4096)) = false, (decide (c < 1)) = false, (decide (c > 64)) = false, (s != 0) = false] (by kernel_rfl) ⟨h0, h1, h2, h3, h4, h5, h9⟩ rfl (.int _ _)
              by_cases d1 : d = 1
              · subst d1
                cases h9 : (s != 0) with
                | true =>
                  exact pureT t6_ok (n := 200) (v := .int .i64 2) [(4, .br false), (3, .br false), (7, .br false), (4, .br false), (4, .br false), (4, .br false), (22, .br true)] [(decide (b < 16)) = false, (decide (b > 1024)) = false, (decide (a < IntKind.i64.wrap (b + 18))) = false, (decide (a > 4096)) = false, (decide (c < 1)) = false, (decide (c > 64)) = false, (s != 0) = true] (by kernel_rfl) ⟨h0, h1, h2, h3, h4, h5, h9⟩ rfl (.int _ _)
                | false =>
                  exact pureT t6_ok (n := 200) (v := .int .i64 0) [(4, .br false), (3, .br false), (7, .br false), (4, .br false), (4, .br false), (4, .br false), (22, .br false)] [(decide (b < 16)) = false, (decide (b > 1024)) = false, (decide (a < IntKind.i64.wrap (b + 18))) = false, (decide (a > 4096)) = false, (decide (c < 1)) = false, (decide (c > 64)) = false, (s != 0) = false] (by kernel_rfl) ⟨h0, h1, h2, h3, h4, h5, h9⟩ rfl (.int _ _)
              by_cases d2 : d = 2
              · subst d2
                exact pureT t6_ok (n := 200) (v := .int .i64 0) [(4, .br false), (3, .br false), (7, .br false), (4, .br false), (4, .br false), (4, .br false)] [(decide (b < 16)) = false, (decide (b > 1024)) = false, (decide (a < IntKind.i64.wrap (b + 18))) = false, (decide (a > 4096)) = false, (decide (c < 1)) = false, (decide (c > 64)) = false] (by kernel_rfl) ⟨h0, h1, h2, h3, h4, h5⟩ rfl (.int _ _)
              have e : (bif decide (d < 0) then false else bif decide (d ≥ 3) then false else bif d != 2 then !(s != 0) else true) = false := by
                by_cases e1 : d < 0
                · rw [decide_eq_true e1]; rfl
                · rw [decide_eq_false e1, decide_eq_true (show d ≥ 3 by omega)]; rfl
              rw [e]
              exact pureT t6_ok (n := 200) (v := .int .i64 2) [(4, .br false), (3, .br false), (7, .br false), (4, .br false), (4, .br false), (4, .br false), (5, .br true), (4, .br true), (4, .br true)] [(decide (b < 16)) = false, (decide (b > 1024)) = false, (decide (a < IntKind.i64.wrap (b + 18))) = false, (decide (a > 4096)) = false, (decide (c < 1)) = false, (decide (c > 64)) = false, (d != 0) = true, (d != 1) = true, (d != 2) = true] (by kernel_rfl) ⟨h0, h1, h2, h3, h4, h5, bne_iff_ne.2 d0, bne_iff_ne.2 d1, bne_iff_ne.2 d2⟩ rfl (.int _ _)

theorem k21_ok : KOk Tryz.prog 9 tabs 21 k20 := by
  intro args v h
  unfold k20 at h
  split at h
  · cases h; exact p21 _ _ _ _ _
  · cases h

/-! ## The document's Encode -/

def rE : Ktab := (21, k20) :: (58, k58) :: (60, k60) :: (59, k59) :: t3
theorem rE_ok : TOk Tryz.prog 9 tabs rE := ⟨k21_ok, k58_ok, k60_ok, k59_ok, t3_ok⟩

end Go.Proofs.YtcjjlajpbakaoaaGreatDoor

/-
  SUPERBLOCK (chapter 36): the document's Encode.
-/
namespace Go.Proofs.YtcjjlajpbakaoaaGreatDoor
open Go.Va

def mk4 : List Value := [.int .u8 84, .int .u8 69, .int .u8 77, .int .u8 80]
def b0 (d : Int) : List Value := [.int .u8 (IntKind.u8.wrap d)]
theorem encR_raw (e a b c d s : Int) (c1 c2 c3 c5 c6 c7 : List Value) (h1 : decide (e < 1) = false) (h2 : decide (e > 1099511627776) = false) (h3 : ((bif chk a b c d s then (0 : Int) else 2) != 0) = false)
    (a1 : ∀ σ, (envT rE).ov 58 [.int .u64 (u64w a), .int .i64 4] 0 σ = some (L c1 4 1 0, σ))
    (a2 : ∀ σ, (envT rE).ov 58 [.int .u64 (u64w b), .int .i64 4] 0 σ = some (L c2 4 1 0, σ))
    (a3 : ∀ σ, (envT rE).ov 58 [.int .u64 (u64w c), .int .i64 4] 0 σ = some (L c3 4 1 0, σ))
    (a5 : ∀ σ, (envT rE).ov 58 [.int .u64 s, .int .i64 8] 0 σ = some (L c5 8 1 0, σ))
    (a6 : ∀ σ, (envT rE).ov 60 [L (((((mk4 ++ c1) ++ c2) ++ c3) ++ b0 d) ++ c5) 25 1 13] 12 σ = some (L c6 29 1 0, σ))
    (a7 : ∀ σ, (envT rE).ov 59 [.int .i64 e, L c6 29 1 0] 12 σ = some (.tuple #[L c7 128 1 0, .int .i64 0], σ)) (hv : PF (L c7 128 1 0)) :
    Pure Tryz.prog 9 tabs 23 [sup e a b c d s] (.tuple #[L c7 128 1 0, .int .i64 0]) :=
  pureT rE_ok (n := 2000) (v := .tuple #[L c7 128 1 0, .int .i64 0]) [(6, .br false), (4, .br false), (5, .br false), (9, .ov (L c1 4 1 0)), (6, .ov (L c2 4 1 0)), (0, .ok), (5, .ov (L c3 4 1 0)), (0, .ok), (6, .ok), (4, .ov (L c5 8 1 0)), (0, .ok), (4, .ov (L c6 29 1 0)), (0, .ov (.tuple #[L c7 128 1 0, .int .i64 0]))]
    [decide (e < 1) = false, decide (e > 1099511627776) = false, ((bif chk a b c d s then (0 : Int) else 2) != 0) = false,
      ∀ σ, (envT rE).ov 58 [.int .u64 (u64w a), .int .i64 4] 0 σ = some (L c1 4 1 0, σ),
      ∀ σ, (envT rE).ov 58 [.int .u64 (u64w b), .int .i64 4] 0 σ = some (L c2 4 1 0, σ), (mk4 ++ c1).length = (mk4 ++ c1).length ∧ (4 + 4 + 4) * 1 ≤ 70368744177664,
      ∀ σ, (envT rE).ov 58 [.int .u64 (u64w c), .int .i64 4] 0 σ = some (L c3 4 1 0, σ), ((mk4 ++ c1) ++ c2).length = ((mk4 ++ c1) ++ c2).length ∧ (4 + 4 + 4 + 4) * 1 ≤ 70368744177664,
      (((mk4 ++ c1) ++ c2) ++ c3).length = (((mk4 ++ c1) ++ c2) ++ c3).length ∧ (4 + 4 + 4 + 4 + 1) * 1 ≤ 70368744177664,
      ∀ σ, (envT rE).ov 58 [.int .u64 s, .int .i64 8] 0 σ = some (L c5 8 1 0, σ), ((((mk4 ++ c1) ++ c2) ++ c3) ++ b0 d).length = ((((mk4 ++ c1) ++ c2) ++ c3) ++ b0 d).length ∧ (4 + 4 + 4 + 4 + 1 + 8) * 1 ≤ 70368744177664,
      ∀ σ, (envT rE).ov 60 [L (((((mk4 ++ c1) ++ c2) ++ c3) ++ b0 d) ++ c5) 25 1 13] 12 σ = some (L c6 29 1 0, σ),
      ∀ σ, (envT rE).ov 59 [.int .i64 e, L c6 29 1 0] 12 σ = some (.tuple #[L c7 128 1 0, .int .i64 0], σ)]
    (by kernel_rfl) ⟨h1, h2, h3, a1, a2, ⟨rfl, by omega⟩, a3, ⟨rfl, by omega⟩, ⟨rfl, by omega⟩, a5, ⟨rfl, by omega⟩, a6, a7⟩ rfl (PF_pair hv (.int _ _))
theorem ovE_58 (n : Nat) (w : Nat) (hw : w = 4 ∨ w = 8) (lim : Nat) (σ : AS) : (envT rE).ov 58 [.int .u64 (n : Int), .int .i64 (w : Int)] lim σ = some (L (bys (if w = 4 then be4 n else be8 n)) w 1 0, σ) := by
  refine envK rfl rfl (show _ = [Value.int .u64 (n : Int), .int .i64 (w : Int)] from rfl) rfl ?_
  unfold rE
  rw [pfT_ne rfl, pfT_eq]
  show (bif decide (0 ≤ (n : Int)) then (bif decide ((w : Int) = 4) then some (L (bys (be4 (n : Int).toNat)) 4 1 0) else bif decide ((w : Int) = 8) then some (L (bys (be8 (n : Int).toNat)) 8 1 0) else none) else none) = _
  rw [decide_eq_true (show 0 ≤ (n : Int) by omega), Int.toNat_natCast]
  rcases hw with rfl | rfl <;> rfl
theorem bys_app (l m : List UInt8) : bys l ++ bys m = bys (l ++ m) := by unfold bys; simp
theorem b0_nat (d : Nat) : b0 (d : Int) = bys (be1 d) := by
  unfold b0 bys be1
  simp only [List.map_cons, List.map_nil]
  rw [wrap8, byt_toNat]
  simp
theorem p23_yes (e a b c d s : Nat) (h1 : 1 ≤ e) (h2 : e ≤ 1099511627776) (hc : chk a b c d s = true) (ha : a < 4294967296) (hb : b < 4294967296) (hcc : c < 4294967296) (hs : s < 18446744073709551616) :
    Pure Tryz.prog 9 tabs 23 [sup e a b c d s] (.tuple #[L (bys (encL e a b c d s)) 128 1 0, .int .i64 0]) := by
  have hw : ∀ n : Nat, n < 18446744073709551616 → u64w (n : Int) = n := fun n hn => wrap_fits .u64 (by show (0 : Int) ≤ n; omega) (by show (n : Int) ≤ 18446744073709551615; omega)
  have hd : ((((mk4 ++ bys (be4 a)) ++ bys (be4 b)) ++ bys (be4 c)) ++ b0 d) ++ bys (be8 s) = bys (dataL a b c d s) := by
    rw [show mk4 = bys mark from rfl, b0_nat, bys_app, bys_app, bys_app, bys_app, bys_app]
    rfl
  have hdl : (dataL a b c d s).length = 25 := by simp [dataL, mark, be4, be1, be8]
  have hsl : (sealL (dataL a b c d s)).length = 29 := by simp [sealL, dataL, mark, be4, be1, be8]
  refine encR_raw e a b c d s (bys (be4 a)) (bys (be4 b)) (bys (be4 c)) (bys (be8 s)) (bys (sealL (dataL a b c d s))) (bys (encL e a b c d s))
    (decide_eq_false (by omega)) (decide_eq_false (by omega)) (by rw [hc]; rfl) (fun σ => ?_) (fun σ => ?_) (fun σ => ?_) (fun σ => ?_) (fun σ => ?_) (fun σ => ?_) (PF_list (by omega) (bys_PF _))
  · rw [hw a (by omega)]; exact ovE_58 a 4 (.inl rfl) 0 σ
  · rw [hw b (by omega)]; exact ovE_58 b 4 (.inl rfl) 0 σ
  · rw [hw c (by omega)]; exact ovE_58 c 4 (.inl rfl) 0 σ
  · exact ovE_58 s 8 (.inr rfl) 0 σ
  · rw [hd]
    refine envK rfl rfl (show [strip (L (bys (dataL a b c d s)) 25 1 13)] = [L (bys (dataL a b c d s)) (dataL a b c d s).length 1 0] by rw [hdl]; rfl) ?_ ?_
    · show (flatB 100 (L (bys (dataL a b c d s)) (dataL a b c d s).length 1 0) && true) = true
      rw [flat_L (by omega)]; rfl
    · show k60 [L (bys (dataL a b c d s)) (dataL a b c d s).length 1 0] = _
      unfold k60
      dsimp only
      rw [asL_L', asB_L (by omega) (by omega)]
      dsimp only
      rw [hdl]
      rfl
  · refine envK rfl rfl (show _ = [Value.int .i64 (e : Int), L (bys (sealL (dataL a b c d s))) (sealL (dataL a b c d s)).length 1 0] by rw [hsl]; rfl) ?_ ?_
    · show (flatB 100 (.int .i64 (e : Int)) && (flatB 100 (L (bys (sealL (dataL a b c d s))) (sealL (dataL a b c d s)).length 1 0) && true)) = true
      rw [flat_L (by omega)]; rfl
    · show k59 [.int .i64 (e : Int), L (bys (sealL (dataL a b c d s))) (sealL (dataL a b c d s)).length 1 0] = _
      unfold k59
      dsimp only
      rw [asL_L', asB_L (by omega) (by omega)]
      dsimp only
      rw [decide_eq_true (show (1 : Int) ≤ (e : Int) by omega), decide_eq_true (show (e : Int) ≤ 1099511627776 by omega), hsl, Int.toNat_natCast]
      rfl
theorem p23_no (e a b c d s : Int) (h : vld e a b c d s = false) : Pure Tryz.prog 9 tabs 23 [sup e a b c d s] (.tuple #[.slice none 0 0, .int .i64 2]) := by
  cases h1 : decide (e < 1) with
  | true =>
    exact pureT rE_ok (n := 2000) (v := .tuple #[.slice none 0 0, .int .i64 2]) [(6, .br true)] [decide (e < 1) = true] (by kernel_rfl) h1 rfl (plain_PF 100 _ rfl)
  | false =>
    cases h2 : decide (e > 1099511627776) with
    | true => exact pureT rE_ok (n := 2000) (v := .tuple #[.slice none 0 0, .int .i64 2]) [(6, .br false), (4, .br true)] [decide (e < 1) = false, decide (e > 1099511627776) = true] (by kernel_rfl) ⟨h1, h2⟩ rfl (plain_PF 100 _ rfl)
    | false =>
      have h3 : chk a b c d s = false := by
        unfold vld at h
        rw [decide_eq_true (show e ≥ 1 by have := of_decide_eq_false h1; omega), decide_eq_true (show e ≤ 1099511627776 by have := of_decide_eq_false h2; omega)] at h
        exact h
      exact pureT rE_ok (n := 2000) (v := .tuple #[.slice none 0 0, .int .i64 2]) [(6, .br false), (4, .br false), (5, .br true)] [decide (e < 1) = false, decide (e > 1099511627776) = false, ((bif chk a b c d s then (0 : Int) else 2) != 0) = true] (by kernel_rfl) ⟨h1, h2, by rw [h3]; rfl⟩ rfl (plain_PF 100 _ rfl)
def encR (e a b c d s : Int) : Value := bif vld e a b c d s then .tuple #[L (bys (encL e.toNat a.toNat b.toNat c.toNat d.toNat s.toNat)) 128 1 0, .int .i64 0] else .tuple #[.slice none 0 0, .int .i64 2]
theorem p23 (e a b c d s : Int) (s0 : 0 ≤ s) (s1 : s < 18446744073709551616) : Pure Tryz.prog 9 tabs 23 [sup e a b c d s] (encR e a b c d s) := by
  unfold encR
  cases h : vld e a b c d s with
  | false => exact p23_no e a b c d s h
  | true =>
    rw [cond_true]
    unfold vld at h
    simp only [Bool.and_eq_true, decide_eq_true_eq] at h
    obtain ⟨⟨h1, h2⟩, h3⟩ := h
    obtain ⟨k1, k2, k3, k4, k5, k6, k7, k8, _⟩ := chk_spec h3
    obtain ⟨e', rfl⟩ := Int.eq_ofNat_of_zero_le (show 0 ≤ e by omega)
    obtain ⟨a', rfl⟩ := Int.eq_ofNat_of_zero_le (show 0 ≤ a by omega)
    obtain ⟨b', rfl⟩ := Int.eq_ofNat_of_zero_le (show 0 ≤ b by omega)
    obtain ⟨c', rfl⟩ := Int.eq_ofNat_of_zero_le (show 0 ≤ c by omega)
    obtain ⟨d', rfl⟩ := Int.eq_ofNat_of_zero_le (show 0 ≤ d by omega)
    obtain ⟨s', rfl⟩ := Int.eq_ofNat_of_zero_le s0
    simp only [Int.toNat_natCast]
    exact p23_yes e' a' b' c' d' s' (by omega) (by omega) h3 (by omega) (by omega) (by omega) (by omega)
def k23 : List Value → Option Value
  | [.agg ⟨[.int .i64 e, .int .i64 a, .int .i64 b, .int .i64 c, .int .i64 d, .int .u64 s]⟩] => bif decide (0 ≤ s) && decide (s < 18446744073709551616) then some (encR e a b c d s) else none
  | _ => none
theorem k23_ok : KOk Tryz.prog 9 tabs 23 k23 := by
  intro args v h
  unfold k23 at h
  split at h
  · rename_i e a b c d s
    cases hb : (decide (0 ≤ s) && decide (s < 18446744073709551616)) with
    | false => rw [hb] at h; cases h
    | true =>
      rw [hb, cond_true] at h
      cases h
      simp only [Bool.and_eq_true, decide_eq_true_eq] at hb
      exact p23 e a b c d s hb.1 hb.2
  · cases h

end Go.Proofs.YtcjjlajpbakaoaaGreatDoor
