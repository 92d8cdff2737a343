/-
  SUPERBLOCK (chapter 36): an environment in which slices of strings that are built and appended to are lists, too.
-/
import Derived.Test.YtcjjlajpbakaoaaGreatDoorD36c
import Derived.Test.YtcjjlajpbakaoaaGreatDoorPart8
import Derived.Test.YtcjjlajpbakaoaaGreatDoorD36e
namespace Go.Proofs.YtcjjlajpbakaoaaGreatDoor
open Go.Va

def mixL (isP : FuncId → Bool) (pf : FuncId → List Value → Option Value) : Env := { mixEnv isP pf with rows := fun o => !(Nat.beq o.type 37 || Nat.beq o.type 91) || isMark o }
theorem fnsL (isP : FuncId → Bool) (pf : FuncId → List Value → Option Value) : fnB Tryz.prog 9 (mixL isP pf) okL = true :=
  (fnB_draws (E := mixL isP pf) (E' := env1) rfl okL).trans fns1
theorem mixL_good (isP : FuncId → Bool) (pf : FuncId → List Value → Option Value) : OvGood (mixL isP pf) := mix_good isP pf
theorem mixL_ok {isP : FuncId → Bool} {pf : FuncId → List Value → Option Value}
    (hpf : ∀ f args v, isP f = true → pf f args = some v → Pure Tryz.prog 9 tabs f args v) (w : World) (hT : Tabs 9 tabs w) : OvOk Tryz.prog (CodeK 9 (mixL isP pf)) w w.heap.size 9 (mixL isP pf) := by
  intro f args lim σ v σ' hi hr
  have hr : (bif Nat.beq f 169 then noEscA args σ else bif Nat.beq f 170 then makeNoZeroA 5 args σ else pureOv pf f args σ) = some (v, σ') := hr
  cases h1 : Nat.beq f 169 with
  | true =>
    rw [h1, cond_true] at hr
    obtain rfl : f = 169 := Nat.eq_of_beq_eq_true h1
    exact ov_noEsc Tryz.func169 name169 body169 next169 find169 args lim σ v σ' hr
  | false =>
    rw [h1, cond_false] at hr
    cases h2 : Nat.beq f 170 with
    | true =>
      rw [h2, cond_true] at hr
      obtain rfl : f = 170 := Nat.eq_of_beq_eq_true h2
      exact ov_makeNoZero Tryz.func170 name170 body170 next170 find170 Tryz.underlying37 args lim σ v σ' hr
    | false =>
      rw [h2, cond_false] at hr
      have hi : (Nat.beq f 169 || Nat.beq f 170 || isP f) = true := hi
      rw [h1, h2, Bool.false_or, Bool.false_or] at hi
      intro β τ w1 args' hw hl hR hf hG ha
      exact pureOv_ok rfl (fun a v => hpf f a v hi) hT hT.1 hr hl hR ha
def envL (l : Ktab) : Env := mixL (isT l) (pfT l)
theorem pureL {l : Ktab} (hl : TOk Tryz.prog 9 tabs l) {n : Nat} {f : FuncId} {args : List Value} {v u : Value} (hs : List (Nat × Hint)) (ob : List Prop)
    (hr : upshot (runH Tryz.prog (envL l) n 0 (.call f args) (base0 9 tabs) ⟨hs, []⟩) = some (v, ob)) (ho : All ob) (hu : strip v = u) (hv : PF u) : Pure Tryz.prog 9 tabs f args u :=
  topH zeroOk mixed rfl (mixL_good _ _) (mixL_ok fun f args v _ h => pfT_pure hl f args v h) (fnOk_of rfl (fnsL _ _)) hr ho hu hv
theorem envK' {l : Ktab} {f : FuncId} {args args' : List Value} {lim : Nat} {σ : AS} {v : Value} (h1 : Nat.beq f 169 = false) (h2 : Nat.beq f 170 = false) (h3 : args.map strip = args') (h4 : args'.all (flatB 100) = true) (h : pfT l f args' = some v) :
    (envL l).ov f args lim σ = some (v, σ) := envK (l := l) (lim := lim) h1 h2 h3 h4 h

/-! ## Replaced functions on strings -/

/-- A number's digits, as a string, by FormatUint and Itoa. -/
def k45 : List Value → Option Value
  | [.int .u64 n, .int .i64 b] => bif decide (0 ≤ n) && decide (n < 18446744073709551616) && decide (b = 10) then some (.string (decS n.toNat)) else none
  | _ => none
theorem k45_ok : KOk Tryz.prog 9 tabs 45 k45 := by
  intro args u h
  unfold k45 at h
  split at h
  · rename_i n b
    cases hb : (decide (0 ≤ n) && decide (n < 18446744073709551616) && decide (b = 10)) with
    | false => rw [hb] at h; cases h
    | true =>
      rw [hb, cond_true] at h
      cases h
      simp only [Bool.and_eq_true, decide_eq_true_eq] at hb
      obtain ⟨⟨h0, h1⟩, h2⟩ := hb
      obtain ⟨k, rfl⟩ := Int.eq_ofNat_of_zero_le h0
      rw [Int.toNat_natCast, h2]
      exact p45 k (by omega)
  · cases h
theorem itoaV_nat (n : Nat) : itoaV (n : Int) = .string (decS n) := by
  unfold itoaV decS
  rw [Lib.itoa_nonneg]
/-- The strings of a list. -/
def strsOf : List Value → Option (List ByteArray)
  | [] => some []
  | .string s :: r => (strsOf r).map (s :: ·)
  | _ => none
theorem strsOf_spec : ∀ {c : List Value} {l : List ByteArray}, strsOf c = some l → c = strs l
  | [], l, h => by cases h; rfl
  | v :: r, l, h => by
    unfold strsOf at h
    split at h
    · rename_i e; cases e
    · rename_i s r' e
      injection e with e1 e2
      subst e1 e2
      obtain ⟨m, hm, rfl⟩ := Option.map_eq_some_iff.1 h
      rw [strsOf_spec hm]; rfl
    · cases h
theorem strsOf_strs : ∀ (l : List ByteArray), strsOf (strs l) = some l
  | [] => rfl
  | s :: l => by
    show (strsOf (strs l)).map (s :: ·) = _
    rw [strsOf_strs l]; rfl
/-- A []string that nobody writes any more, as a value. -/
def asS : Value → Option (List ByteArray)
  | .tuple ⟨[.func (.methodOf t nm) ⟨c⟩ ⟨[.slice none n g, .slice none e d]⟩]⟩ => (match strsOf c with
    | some l => bif Nat.beq t KL && (nm == "") && Nat.beq n l.length && Nat.beq e 1 && Nat.beq d 0 && Nat.ble g 1 then some l else none
    | none => none)
  | _ => none
theorem asS_spec {v : Value} {l : List ByteArray} (h : asS v = some l) : ∃ g, g ≤ 1 ∧ v = L (strs l) l.length 1 g := by
  unfold asS at h
  split at h
  · rename_i t nm c n g e d
    split at h
    · rename_i m hm
      cases hb : (Nat.beq t KL && (nm == "") && Nat.beq n m.length && Nat.beq e 1 && Nat.beq d 0 && Nat.ble g 1) with
      | false => rw [hb] at h; cases h
      | true =>
        rw [hb, cond_true] at h
        cases h
        simp only [Bool.and_eq_true, beq_iff_eq] at hb
        obtain ⟨⟨⟨⟨⟨h1, h2⟩, h4⟩, h5⟩, h6⟩, h7⟩ := hb
        obtain rfl := Nat.eq_of_beq_eq_true h1
        subst h2
        obtain rfl := Nat.eq_of_beq_eq_true h4
        obtain rfl := Nat.eq_of_beq_eq_true h5
        obtain rfl := Nat.eq_of_beq_eq_true h6
        rw [strsOf_spec hm]
        exact ⟨g, Nat.ble_eq ▸ h7, rfl⟩
    · cases h
  · cases h
theorem asS_L {l : List ByteArray} {g : Nat} (hg : g ≤ 1) : asS (L (strs l) l.length 1 g) = some l := by
  show (match strsOf (strs l) with | some m => _ | none => none) = _
  rw [strsOf_strs]
  dsimp only
  have h4 : Nat.beq l.length l.length = true := Nat.beq_refl _
  rw [Nat.ble_eq_true_of_le hg, h4]
  rfl
def lenJ (l : List ByteArray) (sep : ByteArray) : Nat := (Lib.join (l.map (·.data.toList)) sep.data.toList).length
def k46 : List Value → Option Value
  | [v, .string sep] => (match asS v with
    | some l => bif Nat.blt 0 l.length && Nat.blt l.length 1000 && Nat.blt (lenJ l sep) 1000000 then some (.string (joinS l sep)) else none
    | none => none)
  | _ => none
theorem k46_ok : KOk Tryz.prog 9 tabs 46 k46 := by
  intro args u h
  unfold k46 at h
  split at h
  · rename_i v sep
    split at h
    · rename_i l hl
      cases hb : (Nat.blt 0 l.length && Nat.blt l.length 1000 && Nat.blt (lenJ l sep) 1000000) with
      | false => rw [hb] at h; cases h
      | true =>
        rw [hb, cond_true] at h
        cases h
        simp only [Bool.and_eq_true] at hb
        obtain ⟨⟨h1, h2⟩, h3⟩ := hb
        have h1 := blt_iff.1 h1
        have h2 := blt_iff.1 h2
        have h3 := blt_iff.1 h3
        obtain ⟨g, hg, rfl⟩ := asS_spec hl
        unfold lenJ at h3
        exact p46 l sep l.length g rfl (by intro e; rw [e] at h1; simp at h1) (by omega) (by omega)
    · cases h
  · cases h
/-- Split. -/
def k48 : List Value → Option Value
  | [.string s, .string sep] => bif Nat.blt s.size 100000 && Nat.blt 0 sep.size then some (L (strs (splS s sep)) (splS s sep).length 1 0) else none
  | _ => none
theorem k48_ok : KOk Tryz.prog 9 tabs 48 k48 := by
  intro args u h
  unfold k48 at h
  split at h
  · rename_i s sep
    cases hb : (Nat.blt s.size 100000 && Nat.blt 0 sep.size) with
    | false => rw [hb] at h; cases h
    | true =>
      rw [hb, cond_true] at h
      cases h
      simp only [Bool.and_eq_true] at hb
      have h1 := blt_iff.1 hb.1
      have h2 := blt_iff.1 hb.2
      exact p48 s sep (by omega) h2
  · cases h
def k49 : List Value → Option Value
  | [.string s] => bif Nat.blt s.size 100000 then some (atoiV s.data.toList) else none
  | _ => none
theorem k49_ok : KOk Tryz.prog 9 tabs 49 k49 := by
  intro args u h
  unfold k49 at h
  split at h
  · rename_i s
    cases hb : Nat.blt s.size 100000 with
    | false => rw [hb] at h; cases h
    | true =>
      rw [hb, cond_true] at h
      cases h
      have h1 := blt_iff.1 hb
      exact p49 s (by omega)
  · cases h
def k50 : List Value → Option Value
  | [.string s, .int .i64 b, .int .i64 n] => bif Nat.blt s.size 100000 && decide (b = 10) && decide (n = 64) then some (puV s.data.toList) else none
  | _ => none
theorem k50_ok : KOk Tryz.prog 9 tabs 50 k50 := by
  intro args u h
  unfold k50 at h
  split at h
  · rename_i s b n
    cases hb : (Nat.blt s.size 100000 && decide (b = 10) && decide (n = 64)) with
    | false => rw [hb] at h; cases h
    | true =>
      rw [hb, cond_true] at h
      cases h
      simp only [Bool.and_eq_true, decide_eq_true_eq] at hb
      obtain ⟨⟨h1, rfl⟩, rfl⟩ := hb
      have h1 := blt_iff.1 h1
      exact p50 s (by omega)
  · cases h

end Go.Proofs.YtcjjlajpbakaoaaGreatDoor
