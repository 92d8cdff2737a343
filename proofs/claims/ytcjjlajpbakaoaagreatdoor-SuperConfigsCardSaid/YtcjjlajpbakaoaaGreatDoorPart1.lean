/-
  The functions that the statement reaches: what they answer, part 1.
-/
import Derived.Test.YtcjjlajpbakaoaaGreatDoorD36e

/-
  SUPERBLOCK (chapter 36): arrays of bytes compared; the law of the checksum's step.
-/
namespace Go.Proofs.YtcjjlajpbakaoaaGreatDoor
open Go.Va
section
variable {P : Program}
theorem eqEl {el : TypeId} {k : IntKind} (hu : P.underlying el = some (.int k)) (d lim : Nat) (a b : Int) (σ : AS) : runA P lim (Op.equalIn (d + 1) el (.int k a) (.int k b)) σ = some (a == b, σ) := by
  rw [Op.equalIn, runA_bind, runA_underlying, hu]
  dsimp only [Option.map]
  rw [if_pos rfl]
  rfl
theorem partEl {el : TypeId} {k : IntKind} (hu : P.underlying el = some (.int k)) (lim : Nat) (c : List Value) (i : Nat) (v : Value) (hv : c[i]? = some v) (σ : AS) : runA P lim (part el ⟨c⟩ i) σ = some (v, σ) := by
  unfold part isAgg
  rw [runA_bind, runA_bind, runA_underlying, hu]
  dsimp only [Option.map]
  rw [show runA P lim (Pure.pure false : Sem Bool) σ = some (false, σ) from rfl]
  dsimp only
  rw [if_neg (by decide)]
  rw [show (⟨c⟩ : Array Value)[i]? = some v by rw [← hv]; simp]
  rfl
theorem eqLoop {el : TypeId} (hu : P.underlying el = some (.int .u8)) (lim d : Nat) (l m : List UInt8) (hlm : l.length = m.length) (σ : AS) : ∀ (k i : Nat), i + k = l.length →
    runA P lim (forIn (m := Sem) (List.range' i k) ((none, ()) : Option Bool × Unit) fun i __s => do
          let __do_lift ← part el { toList := bys l } (i * 1)
          let __do_lift_1 ← part el { toList := bys m } (i * 1)
          let __do_lift ← Op.equalIn (d + 1) el __do_lift __do_lift_1
          if (!__do_lift) = true then pure (ForInStep.done (some false, ())) else pure (ForInStep.yield (none, ()))) σ = some (bif l.drop i == m.drop i then (none, ()) else (some false, ()), σ) := by
  intro k
  induction k with
  | zero =>
    intro i hi
    rw [List.drop_of_length_le (by omega), List.drop_of_length_le (by omega)]
    rfl
  | succ k ih =>
    intro i hi
    have h1 : i < l.length := by omega
    have h2 : i < m.length := by omega
    have g1 : (bys l)[i * 1]? = some (.int .u8 l[i].toNat) := by unfold bys; rw [Nat.mul_one, List.getElem?_map, List.getElem?_eq_getElem h1]; rfl
    have g2 : (bys m)[i * 1]? = some (.int .u8 m[i].toNat) := by unfold bys; rw [Nat.mul_one, List.getElem?_map, List.getElem?_eq_getElem h2]; rfl
    rw [List.range'_succ, List.forIn_cons, runA_bind, runA_bind, partEl hu lim _ _ _ g1]
    dsimp only
    rw [runA_bind, partEl hu lim _ _ _ g2]
    dsimp only
    rw [runA_bind, eqEl hu]
    dsimp only
    rw [List.drop_eq_getElem_cons h1, List.drop_eq_getElem_cons h2, List.cons_beq_cons]
    by_cases h : l[i] = m[i]
    · rw [h, beq_self_eq_true, beq_self_eq_true, Bool.true_and]
      exact ih (i + 1) (by omega)
    · have e1 : (((l[i].toNat : Nat) : Int) == ((m[i].toNat : Nat) : Int)) = false := beq_eq_false_iff_ne.2 fun e => h (UInt8.toNat_inj.1 (Int.ofNat.inj e))
      rw [e1, beq_eq_false_iff_ne.2 h, Bool.false_and]
      rfl
theorem eqArr {t el : TypeId} {n : Nat} {i0 : TypeInfo} (ht : P.underlying t = some (.array n el)) (hu : P.underlying el = some (.int .u8)) (hi : P.info? el = some i0) (hs : i0.size = 1) (lim d : Nat) (l m : List UInt8) (hl : l.length = n) (hm : m.length = n) (σ : AS) :
    runA P lim (Op.equalIn (d + 2) t (.agg ⟨bys l⟩) (.agg ⟨bys m⟩)) σ = some (l == m, σ) := by
  rw [Op.equalIn, runA_bind, runA_underlying, ht]
  dsimp only [Option.map]
  rw [runA_bind, runA_sizeOf, hi]
  dsimp only [Option.map]
  rw [hs, runA_bind]
  simp only [Std.Legacy.Range.forIn_eq_forIn_range']
  rw [show ([:n] : Std.Legacy.Range).size = n by simp [Std.Legacy.Range.size], eqLoop hu lim d l m (by omega) σ n 0 (by omega), List.drop_zero, List.drop_zero]
  cases l == m <;> rfl
theorem neqArr {t el : TypeId} {n : Nat} {i0 : TypeInfo} (ht : P.underlying t = some (.array n el)) (hu : P.underlying el = some (.int .u8)) (hi : P.info? el = some i0) (hs : i0.size = 1) (lim : Nat) (l m : List UInt8) (hl : l.length = n) (hm : m.length = n) (σ : AS) :
    runA P lim (binOp .neq t (.agg ⟨bys l⟩) (.agg ⟨bys m⟩)) σ = some (.bool (!(l == m)), σ) := by
  show runA P lim (Op.equal t (.agg ⟨bys l⟩) (.agg ⟨bys m⟩) >>= fun b => Pure.pure (Value.bool !b)) σ = _
  unfold Op.equal
  rw [runA_bind, show Op.maxDepth = 9998 + 2 from rfl, eqArr ht hu hi hs lim 9998 l m hl hm σ]
  rfl
end

/-! ## The checksum, bit by bit -/

theorem stepN_xor (a b : Nat) : stepN (a ^^^ b) = stepN a ^^^ stepN b := by
  unfold stepN
  rw [show (a ^^^ b) % 2 = (a + b) % 2 by
    rw [show (a ^^^ b) % 2 = (a ^^^ b) % 2 ^ 1 from rfl, Nat.xor_mod_two_pow]
    have ha : a % 2 = 0 ∨ a % 2 = 1 := by omega
    have hb : b % 2 = 0 ∨ b % 2 = 1 := by omega
    rw [Nat.add_mod]; rcases ha with h1 | h1 <;> rcases hb with h2 | h2 <;> rw [show a % 2 ^ 1 = a % 2 from rfl, show b % 2 ^ 1 = b % 2 from rfl, h1, h2] <;> rfl]
  rw [Nat.xor_div_two]
  show (bif Nat.beq ((a+b) % 2) 1 then (a/2 ^^^ b/2) ^^^ 2197175160 else a/2 ^^^ b/2) = (bif Nat.beq (a % 2) 1 then (a / 2) ^^^ 2197175160 else a / 2) ^^^ (bif Nat.beq (b % 2) 1 then (b / 2) ^^^ 2197175160 else b / 2)
  have ha : a % 2 = 0 ∨ a % 2 = 1 := by omega
  have hb : b % 2 = 0 ∨ b % 2 = 1 := by omega
  rcases ha with h1 | h1 <;> rcases hb with h2 | h2 <;> rw [h1, h2, Nat.add_mod, h1, h2]
  · rfl
  · show (a/2 ^^^ b/2) ^^^ 2197175160 = (a/2) ^^^ ((b/2) ^^^ 2197175160)
    rw [Nat.xor_assoc]
  · show (a/2 ^^^ b/2) ^^^ 2197175160 = ((a/2) ^^^ 2197175160) ^^^ (b/2)
    rw [Nat.xor_assoc, Nat.xor_comm (b/2), ← Nat.xor_assoc]
  · show a/2 ^^^ b/2 = ((a/2) ^^^ 2197175160) ^^^ ((b/2) ^^^ 2197175160)
    rw [Nat.xor_comm (b/2) 2197175160, Nat.xor_assoc, ← Nat.xor_assoc 2197175160 2197175160, Nat.xor_self, Nat.zero_xor]
theorem stepN_two (y : Nat) : stepN (2 * y) = y := by
  unfold stepN
  rw [show 2 * y % 2 = 0 by omega, show 2 * y / 2 = y by omega]; rfl
theorem step8_xor (a b : Nat) : step8 (a ^^^ b) = step8 a ^^^ step8 b := by
  unfold step8; simp only [stepN_xor]
theorem step8_hi (y : Nat) : step8 (y * 256) = y := by
  unfold step8
  rw [show y * 256 = 2 * (2 * (2 * (2 * (2 * (2 * (2 * (2 * y))))))) by omega]
  simp only [stepN_two]
theorem feedN (x b : Nat) : step8 (Nat.xor x b) = updN x b := by
  have h := Nat.shiftLeft_add_eq_or_of_lt (b := x % 256) (i := 8) (by omega) (x / 256)
  have hx : x = (x / 256 * 256) ^^^ (x % 256) := by
    apply Nat.eq_of_testBit_eq
    intro i
    rw [Nat.testBit_xor, show x / 256 * 256 = (x / 256) * 2 ^ 8 from rfl, show x % 256 = x % 2 ^ 8 from rfl, show x / 256 = x / 2 ^ 8 from rfl, Nat.testBit_mul_two_pow, Nat.testBit_mod_two_pow, Nat.testBit_div_two_pow]
    by_cases h : i < 8
    · simp [h, show ¬ 8 ≤ i by omega]
    · simp [h, show 8 ≤ i by omega, Nat.sub_add_cancel (show 8 ≤ i by omega)]
  unfold updN
  show step8 (x ^^^ b) = step8 (x % 256 ^^^ b) ^^^ (x / 256)
  conv => lhs; rw [hx]
  rw [Nat.xor_assoc, step8_xor, step8_hi, Nat.xor_comm]

end Go.Proofs.YtcjjlajpbakaoaaGreatDoor

/-
  SUPERBLOCK (chapter 36): the document's checksum: step and Feed.
-/
namespace Go.Proofs.YtcjjlajpbakaoaaGreatDoor
open Go.Va

theorem p190 (x : Nat) (hx : x < 4294967296) : Pure Tryz.prog 9 tabs 190 [.int .u32 x] (.int .u32 (stepN x : Nat)) := by
  have ho := xOdd_nat hx
  unfold stepN
  cases hb : Nat.beq (x % 2) 1 with
  | true =>
    rw [hb] at ho
    rw [cond_true, ← xA_nat hx]
    exact pureT t3_ok (n := 100) (v := .int .u32 (xA x)) [(4, .br true)] [xOdd x = true] (by kernel_rfl) ho rfl (.int _ _)
  | false =>
    rw [hb] at ho
    rw [cond_false, ← xB_nat x]
    exact pureT t3_ok (n := 100) (v := .int .u32 (xB x)) [(4, .br false)] [xOdd x = false] (by kernel_rfl) ho rfl (.int _ _)
def k190 : List Value → Option Value
  | [.int .u32 x] => bif inW x then some (.int .u32 (stepN x.toNat : Nat)) else none
  | _ => none
theorem k190_ok : KOk Tryz.prog 9 tabs 190 k190 := by
  intro args u h
  unfold k190 at h
  split at h
  · rename_i x
    cases hw : inW x with
    | false => rw [hw] at h; cases h
    | true =>
      rw [hw, cond_true] at h
      cases h
      simp only [inW, Bool.and_eq_true, decide_eq_true_eq] at hw
      obtain ⟨n, rfl⟩ := Int.eq_ofNat_of_zero_le hw.1
      rw [Int.toNat_natCast]
      exact p190 n (by omega)
  · cases h
def rA : Ktab := (190, k190) :: t3
theorem rA_ok : TOk Tryz.prog 9 tabs rA := ⟨k190_ok, t3_ok⟩
theorem ovA_190 (x : Nat) (hx : x < 4294967296) (lim : Nat) (σ : AS) : (envT rA).ov 190 [.int .u32 x] lim σ = some (.int .u32 (stepN x : Nat), σ) := by
  refine envK rfl rfl (show _ = [Value.int .u32 (x : Int)] from rfl) rfl ?_
  unfold rA
  rw [pfT_eq]
  show (bif inW (x : Int) then some (Value.int .u32 (stepN (x : Int).toNat : Nat)) else none) = _
  have : inW (x : Int) = true := by simp only [inW, Bool.and_eq_true, decide_eq_true_eq]; omega
  rw [this, Int.toNat_natCast]
  rfl

/-! ## Feed -/

theorem feed_raw (x b y0 y1 y2 y3 y4 y5 y6 y7 y8 : Int) (h0 : Value.int .u32 (uN x (IntKind.u32.wrap b)) = .int .u32 y0)
    (h1 : ∀ σ, (envT rA).ov 190 [.int .u32 y0] 0 σ = some (.int .u32 y1, σ)) (h2 : ∀ σ, (envT rA).ov 190 [.int .u32 y1] 0 σ = some (.int .u32 y2, σ))
    (h3 : ∀ σ, (envT rA).ov 190 [.int .u32 y2] 0 σ = some (.int .u32 y3, σ)) (h4 : ∀ σ, (envT rA).ov 190 [.int .u32 y3] 0 σ = some (.int .u32 y4, σ))
    (h5 : ∀ σ, (envT rA).ov 190 [.int .u32 y4] 0 σ = some (.int .u32 y5, σ)) (h6 : ∀ σ, (envT rA).ov 190 [.int .u32 y5] 0 σ = some (.int .u32 y6, σ))
    (h7 : ∀ σ, (envT rA).ov 190 [.int .u32 y6] 0 σ = some (.int .u32 y7, σ)) (h8 : ∀ σ, (envT rA).ov 190 [.int .u32 y7] 0 σ = some (.int .u32 y8, σ)) :
    Pure Tryz.prog 9 tabs 178 [.int .u32 x, .int .u8 b] (.int .u32 y8) :=
  pureT rA_ok (n := 300) (v := .int .u32 y8) [(5, .eq (.int .u32 y0)), (6, .ov (.int .u32 y1)), (9, .ov (.int .u32 y2)), (9, .ov (.int .u32 y3)), (9, .ov (.int .u32 y4)), (9, .ov (.int .u32 y5)), (9, .ov (.int .u32 y6)), (9, .ov (.int .u32 y7)), (9, .ov (.int .u32 y8))]
    [Value.int .u32 (uN x (IntKind.u32.wrap b)) = .int .u32 y0, ∀ σ, (envT rA).ov 190 [.int .u32 y0] 0 σ = some (.int .u32 y1, σ), ∀ σ, (envT rA).ov 190 [.int .u32 y1] 0 σ = some (.int .u32 y2, σ), ∀ σ, (envT rA).ov 190 [.int .u32 y2] 0 σ = some (.int .u32 y3, σ), ∀ σ, (envT rA).ov 190 [.int .u32 y3] 0 σ = some (.int .u32 y4, σ),
      ∀ σ, (envT rA).ov 190 [.int .u32 y4] 0 σ = some (.int .u32 y5, σ), ∀ σ, (envT rA).ov 190 [.int .u32 y5] 0 σ = some (.int .u32 y6, σ), ∀ σ, (envT rA).ov 190 [.int .u32 y6] 0 σ = some (.int .u32 y7, σ), ∀ σ, (envT rA).ov 190 [.int .u32 y7] 0 σ = some (.int .u32 y8, σ)]
    (by kernel_rfl) ⟨h0, h1, h2, h3, h4, h5, h6, h7, h8⟩ rfl (.int _ _)
theorem step_lts {x : Nat} (hx : x < 4294967296) : stepN x < 4294967296 := stepN_lt hx
theorem p178 (x b : Nat) (hx : x < 4294967296) (hb : b < 256) : Pure Tryz.prog 9 tabs 178 [.int .u32 x, .int .u8 b] (.int .u32 (updN x b : Nat)) := by
  rw [← feedN x b]
  have l0 : Nat.xor x b < 4294967296 := xor_lt hx (by omega)
  have e0 : Value.int .u32 (uN x (IntKind.u32.wrap (b : Int))) = .int .u32 (Nat.xor x b : Nat) := by
    rw [wrap32 (n := b) (by omega), uN_nat hx (by omega)]
  have l1 := stepN_lt l0
  have l2 := stepN_lt l1
  have l3 := stepN_lt l2
  have l4 := stepN_lt l3
  have l5 := stepN_lt l4
  have l6 := stepN_lt l5
  have l7 := stepN_lt l6
  exact feed_raw x b (Nat.xor x b : Nat) _ _ _ _ _ _ _ _ e0 (ovA_190 _ l0 0) (ovA_190 _ l1 0) (ovA_190 _ l2 0) (ovA_190 _ l3 0) (ovA_190 _ l4 0) (ovA_190 _ l5 0) (ovA_190 _ l6 0) (ovA_190 _ l7 0)
def k178 : List Value → Option Value
  | [.int .u32 x, .int .u8 b] => bif inW x && decide (0 ≤ b) && decide (b < 256) then some (.int .u32 (updN x.toNat b.toNat : Nat)) else none
  | _ => none
theorem k178_ok : KOk Tryz.prog 9 tabs 178 k178 := by
  intro args u h
  unfold k178 at h
  split at h
  · rename_i x b
    cases hw : (inW x && decide (0 ≤ b) && decide (b < 256)) with
    | false => rw [hw] at h; cases h
    | true =>
      rw [hw, cond_true] at h
      cases h
      simp only [inW, Bool.and_eq_true, decide_eq_true_eq] at hw
      obtain ⟨n, rfl⟩ := Int.eq_ofNat_of_zero_le hw.1.1.1
      obtain ⟨m, rfl⟩ := Int.eq_ofNat_of_zero_le hw.1.2
      rw [Int.toNat_natCast, Int.toNat_natCast]
      exact p178 n m (by omega) (by omega)
  · cases h
def rB : Ktab := (178, k178) :: t3
theorem rB_ok : TOk Tryz.prog 9 tabs rB := ⟨k178_ok, t3_ok⟩
theorem ovB_178 (x b : Nat) (hx : x < 4294967296) (hb : b < 256) (lim : Nat) (σ : AS) : (envT rB).ov 178 [.int .u32 x, .int .u8 b] lim σ = some (.int .u32 (updN x b : Nat), σ) := by
  refine envK rfl rfl (show _ = [Value.int .u32 (x : Int), .int .u8 (b : Int)] from rfl) rfl ?_
  unfold rB
  rw [pfT_eq]
  show (bif inW (x : Int) && decide (0 ≤ (b : Int)) && decide ((b : Int) < 256) then some (Value.int .u32 (updN (x : Int).toNat (b : Int).toNat : Nat)) else none) = _
  have : inW (x : Int) = true := by simp only [inW, Bool.and_eq_true, decide_eq_true_eq]; omega
  rw [this, decide_eq_true (show 0 ≤ (b : Int) by omega), decide_eq_true (show (b : Int) < 256 by omega), Int.toNat_natCast, Int.toNat_natCast]
  rfl

end Go.Proofs.YtcjjlajpbakaoaaGreatDoor

/-
  SUPERBLOCK (chapter 36): the document's Update, Sum.
-/
namespace Go.Proofs.YtcjjlajpbakaoaaGreatDoor
open Go.Va

noncomputable def bodyR : Code := codeOf Tryz.prog 151 [.r, .r, .l, .r, .b, .b]
def TR (c : Value) (x i : Int) (w : Nat → Value) : List Value := fillT 23 [(1, c), (5, .int .u32 x), (6, .int .i64 i)] w
theorem nextR (c : List Value) (n g : Nat) (x i b y : Int) (w : Nat → Value) (h1 : decide (i < n) = true) (h2 : 0 ≤ i ∧ i < n) (h3 : c[i.toNat * 1]? = some (.int .u8 b)) (h4 : ∀ σ, (envT rB).ov 178 [.int .u32 x, .int .u8 b] 0 σ = some (.int .u32 y, σ)) :
    ∃ w', runW Tryz.prog (envT rB) 0 (.code ⟨151, none⟩ bodyR (TR (L c n 1 g) x i w) []) (base0 9 tabs) = some (.done .normal (TR (L c n 1 g) y (IntKind.i64.wrap (i + 1)) w') [], base0 9 tabs) :=
  seg 100 [(4, .br true), (3, .ok), (0, .is (.int .u8 b)), (0, .ov (.int .u32 y))] (m := 23) (js := [1, 5, 6]) (vs := [L c n 1 g, .int .u32 y, .int .i64 (IntKind.i64.wrap (i + 1))])
    (ob := [decide (i < n) = true, 0 ≤ i ∧ i < n, c[i.toNat * 1]? = some (.int .u8 b), ∀ σ, (envT rB).ov 178 [.int .u32 x, .int .u8 b] 0 σ = some (.int .u32 y, σ)]) (by kernel_rfl) ⟨h1, h2, h3, h4⟩
theorem endR (c : List Value) (n g : Nat) (x i : Int) (w : Nat → Value) (h1 : decide (i < n) = false) :
    ∃ w', runW Tryz.prog (envT rB) 0 (.code ⟨151, none⟩ bodyR (TR (L c n 1 g) x i w) []) (base0 9 tabs) = some (.done (.exit 0) (TR (L c n 1 g) x i w') [], base0 9 tabs) :=
  seg 100 [(4, .br false)] (m := 23) (js := [1, 5, 6]) (vs := [L c n 1 g, .int .u32 x, .int .i64 i]) (ob := [decide (i < n) = false]) (by kernel_rfl) h1
theorem loopR (bs : List UInt8) (n g : Nat) (hn : bs.length = n) (hn2 : n < 4611686018427387904) : ∀ (d i x : Nat) (w : Nat → Value), i + d = n → x < 4294967296 →
    ∃ w', runW Tryz.prog (envT rB) 0 (.code ⟨151, none⟩ (.loop bodyR) (TR (L (bys bs) n 1 g) x i w) []) (base0 9 tabs) = some (.done (.exit 0) (TR (L (bys bs) n 1 g) (crcF x (bs.drop i) : Nat) n w') [], base0 9 tabs) := by
  intro d
  induction d with
  | zero =>
    intro i x w hd hx
    obtain rfl : i = n := by omega
    obtain ⟨w', h⟩ := endR (bys bs) i g x i w (decide_eq_false (by omega))
    rw [List.drop_of_length_le (by omega)]
    exact ⟨w', loop_out (by intro h; cases h) h⟩
  | succ d ih =>
    intro i x w hd hx
    have hi : i < bs.length := by omega
    have hb : bs[i].toNat < 256 := bs[i].toNat_lt
    obtain ⟨w1, h⟩ := nextR (bys bs) n g x i bs[i].toNat (updN x bs[i].toNat : Nat) w (decide_eq_true (by omega)) (by omega)
      (by unfold bys; rw [Int.toNat_natCast, Nat.mul_one, List.getElem?_map, List.getElem?_eq_getElem hi]; rfl) (ovB_178 x _ hx hb 0)
    rw [wrap64 (by omega) (by omega)] at h
    obtain ⟨w', h'⟩ := ih (i + 1) (updN x bs[i].toNat) w1 (by omega) (updN_lt hx hb)
    refine ⟨w', ?_⟩
    rw [List.drop_eq_getElem_cons hi]
    exact loop_next h h'
def wR (c : Value) (s : Int) : Nat → Value := fun j => Go.Va.look [(0, .int .u32 s), (1, c), (4, .int .u32 0), (7, .int .u32 s), (8, .int .u32 (uN s 4294967295))] j undef
theorem p151 (s : Nat) (hs : s < 4294967296) (bs : List UInt8) (g : Nat) (hn : bs.length < 4611686018427387904) : Pure Tryz.prog 9 tabs 151 [.int .u32 s, L (bys bs) bs.length 1 g] (.int .u32 (crcU s bs : Nat)) := by
  have h0 : uN s 4294967295 = (Nat.xor s 4294967295 : Nat) := uN_nat (y := 4294967295) hs (by omega)
  obtain ⟨w', h⟩ := loopR bs bs.length g rfl hn bs.length 0 (Nat.xor s 4294967295) (wR (L (bys bs) bs.length 1 g) s) (by omega) (xor_lt hs (by omega))
  rw [List.drop_zero, ← h0] at h
  have e : (crcU s bs : Int) = uN (crcF (Nat.xor s 4294967295) bs : Nat) 4294967295 := (uN_nat (y := 4294967295) (crcF_lt bs (xor_lt hs (by omega))) (by omega)).symm
  rw [e]
  exact pureT rB_ok (n := 100) (v := .int .u32 (uN (crcF (Nat.xor s 4294967295) bs : Nat) 4294967295)) [(5, .skip (.done (.exit 0) (TR (L (bys bs) bs.length 1 g) (crcF (Nat.xor s 4294967295) bs : Nat) bs.length w') []) (base0 9 tabs))] [_] (by kernel_rfl) h rfl (.int _ _)
def k151 : List Value → Option Value
  | [.int .u32 s, v] => (match asL v, asB v with
    | some _, some l => bif inW s then some (.int .u32 (crcU s.toNat l : Nat)) else none
    | _, _ => none)
  | _ => none
theorem k151_ok : KOk Tryz.prog 9 tabs 151 k151 := by
  intro args u h
  unfold k151 at h
  split at h
  · rename_i s v
    split at h
    · rename_i x l hL hl
      cases hw : inW s with
      | false => rw [hw] at h; cases h
      | true =>
        rw [hw, cond_true] at h
        cases h
        simp only [inW, Bool.and_eq_true, decide_eq_true_eq] at hw
        obtain ⟨n, rfl⟩ := Int.eq_ofNat_of_zero_le hw.1
        rw [Int.toNat_natCast]
        rcases asB_spec hl with ⟨rfl, rfl⟩ | ⟨g, _, rfl, hn⟩
        · cases hL
        · exact p151 n (by omega) l g hn
    · cases h
  · cases h

end Go.Proofs.YtcjjlajpbakaoaaGreatDoor
