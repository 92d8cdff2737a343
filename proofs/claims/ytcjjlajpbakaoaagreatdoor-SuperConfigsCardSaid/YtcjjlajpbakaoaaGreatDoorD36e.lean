/-
  SUPERBLOCK (chapter 36): lists of bytes as values; crc32c.Update.
-/
import Derived.Test.YtcjjlajpbakaoaaGreatDoorD36d
namespace Go.Proofs.YtcjjlajpbakaoaaGreatDoor
open Go.Va

def bys (l : List UInt8) : List Value := l.map fun b => .int .u8 b.toNat
/-- A []byte that nobody writes any more, as a value: nil, or a list. -/
def asB : Value → Option (List UInt8)
  | .slice none 0 0 => some []
  | .tuple ⟨[.func (.methodOf t nm) ⟨c⟩ ⟨[.slice none n g, .slice none e d]⟩]⟩ => (match bytesOf c with
    | some l => bif Nat.beq t KL && (nm == "") && veqL c (bys l) && Nat.beq n l.length && Nat.beq e 1 && Nat.beq d 0 && Nat.ble g 1 && Nat.blt l.length 4611686018427387904 then some l else none
    | none => none)
  | _ => none
def IsB (v : Value) (l : List UInt8) : Prop := (v = .slice none 0 0 ∧ l = []) ∨ ∃ g, g ≤ 1 ∧ v = L (bys l) l.length 1 g ∧ l.length < 4611686018427387904
theorem asB_spec {v : Value} {l : List UInt8} (h : asB v = some l) : IsB v l := by
  unfold asB at h
  split at h
  · cases h; exact .inl ⟨rfl, rfl⟩
  · rename_i t nm c n g e d
    split at h
    · rename_i m hm
      cases hb : (Nat.beq t KL && (nm == "") && veqL c (bys m) && Nat.beq n m.length && Nat.beq e 1 && Nat.beq d 0 && Nat.ble g 1 && Nat.blt m.length 4611686018427387904) with
      | false => rw [hb] at h; cases h
      | true =>
        rw [hb, cond_true] at h
        cases h
        simp only [Bool.and_eq_true, beq_iff_eq] at hb
        obtain ⟨⟨⟨⟨⟨⟨⟨h1, h2⟩, h3⟩, h4⟩, h5⟩, h6⟩, h7⟩, h8⟩ := hb
        obtain rfl := Nat.eq_of_beq_eq_true h1
        subst h2
        obtain rfl := veqL_eq h3
        obtain rfl := Nat.eq_of_beq_eq_true h4
        obtain rfl := Nat.eq_of_beq_eq_true h5
        obtain rfl := Nat.eq_of_beq_eq_true h6
        exact .inr ⟨g, Nat.ble_eq ▸ h7, rfl, Nat.blt_eq ▸ h8⟩
    · cases h
  · cases h
theorem veqL_bys (l : List UInt8) : veqL (bys l) (bys l) = true := by
  induction l with
  | nil => rfl
  | cons a l ih =>
    show (decide (IntKind.u8 = IntKind.u8) && decide ((a.toNat : Int) = (a.toNat : Int)) && veqL (bys l) (bys l)) = true
    rw [ih]; simp
theorem bytesOf_bys (l : List UInt8) : bytesOf (bys l) = some l := by
  induction l with
  | nil => rfl
  | cons a l ih =>
    show (match bytesOf (bys l) with | some r => some ((a.toNat : Int).toNat.toUInt8 :: r) | none => none) = _
    rw [ih]
    simp
theorem asB_L {l : List UInt8} {g : Nat} (hg : g ≤ 1) (hl : l.length < 4611686018427387904) : asB (L (bys l) l.length 1 g) = some l := by
  show (match bytesOf (bys l) with | some m => _ | none => none) = _
  rw [bytesOf_bys]
  dsimp only
  have h7 : Nat.ble g 1 = true := by rw [Nat.ble_eq]; exact hg
  have h8 : Nat.blt l.length 4611686018427387904 = true := by rw [Nat.blt_eq]; exact hl
  have h4 : Nat.beq l.length l.length = true := Nat.beq_refl _
  rw [veqL_bys, h7, h8, h4]
  rfl
theorem bys_PF (l : List UInt8) : ∀ v ∈ bys l, PF v := fun v hv => by
  obtain ⟨x, _, rfl⟩ := List.mem_map.1 hv
  exact .int _ _

/-- One byte of the division. -/
def updN (x b : Nat) : Nat := Nat.xor (step8 (Nat.xor (x % 256) b)) (x / 256)
def crcF (x : Nat) (l : List UInt8) : Nat := l.foldl (fun x b => updN x b.toNat) x
/-- crc32c.Update. -/
def crcU (s : Nat) (l : List UInt8) : Nat := Nat.xor (crcF (Nat.xor s 4294967295) l) 4294967295

def k177 : List Value → Option Value
  | [] => some tabV
  | _ => none
theorem k177_ok : KOk Tryz.prog 9 tabs 177 k177 := by
  intro args v h
  unfold k177 at h
  split at h
  · cases h; exact p177
  · cases h
def t2 : Ktab := (177, k177) :: t1
theorem t2_ok : TOk Tryz.prog 9 tabs t2 := ⟨k177_ok, t1_ok⟩

noncomputable def bodyU : Code := codeOf Tryz.prog 150 [.r, .r, .r, .l, .r, .b, .b]
def TU (c : List Value) (n g : Nat) (x i : Int) (w : Nat → Value) : List Value := fillT 30 [(5, .pointer (some ⟨9, 0, none⟩)), (6, .int .u32 x), (12, L c n 1 g), (13, .int .i64 n), (14, .int .i64 i)] w
def SU : AS := (base0 9 tabs).push (.cells (crcV crcL) true (none, some 206) none)
def uIx (x b : Int) : Int := IntKind.u8.wrap ((BitVec.ofInt IntKind.u8.bits (IntKind.u8.wrap x) ^^^ BitVec.ofInt IntKind.u8.bits b).toNat : Int)
def uX (x y : Int) : Int := IntKind.u32.wrap ((BitVec.ofInt IntKind.u32.bits y ^^^ BitVec.ofInt IntKind.u32.bits (x.fdiv (2 ^ min (Int.toNat 8) IntKind.u32.bits))).toNat : Int)
def uN (x y : Int) : Int := IntKind.u32.wrap ((BitVec.ofInt IntKind.u32.bits x ^^^ BitVec.ofInt IntKind.u32.bits y).toNat : Int)

theorem wrap8 {n : Nat} : IntKind.u8.wrap (n : Int) = ((n % 256 : Nat) : Int) := by
  unfold IntKind.wrap
  show (n : Int) % 2 ^ 8 = _
  omega
theorem xor8 {a b : Nat} (ha : a < 256) (hb : b < 256) : Nat.xor a b < 256 := Nat.xor_lt_two_pow (n := 8) ha hb
theorem uIx_nat (x b : Nat) (hb : b < 256) : uIx x b = (Nat.xor (x % 256) b : Nat) := by
  unfold uIx
  rw [show IntKind.u8.wrap (x : Int) = ((x % 256 : Nat) : Int) from wrap8, BitVec.ofInt_natCast, BitVec.ofInt_natCast, BitVec.toNat_xor, BitVec.toNat_ofNat, BitVec.toNat_ofNat]
  have e1 : x % 256 % 2 ^ IntKind.u8.bits = x % 256 := Nat.mod_eq_of_lt (by show x % 256 < 256; omega)
  have e2 : b % 2 ^ IntKind.u8.bits = b := Nat.mod_eq_of_lt hb
  rw [e1, e2, wrap8]
  exact congrArg (Nat.cast : Nat → Int) (Nat.mod_eq_of_lt (xor8 (by omega) hb))
theorem uX_nat {x y : Nat} (hx : x < 4294967296) (hy : y < 4294967296) : uX x y = (Nat.xor y (x / 256) : Nat) := by
  unfold uX
  rw [show ((2 : Int) ^ min (Int.toNat 8) IntKind.u32.bits) = ((256 : Nat) : Int) from rfl, Int.fdiv_eq_ediv_of_nonneg _ (by omega), ← Int.natCast_ediv]
  rw [BitVec.ofInt_natCast, BitVec.ofInt_natCast, BitVec.toNat_xor, BitVec.toNat_ofNat, BitVec.toNat_ofNat]
  have e1 : x / 256 % 2 ^ IntKind.u32.bits = x / 256 := Nat.mod_eq_of_lt (by show x / 256 < 4294967296; omega)
  have e2 : y % 2 ^ IntKind.u32.bits = y := Nat.mod_eq_of_lt hy
  rw [e1, e2]
  exact wrap32 (xor_lt hy (by omega))
theorem uN_nat {x y : Nat} (hx : x < 4294967296) (hy : y < 4294967296) : uN x y = (Nat.xor x y : Nat) := by
  unfold uN
  rw [BitVec.ofInt_natCast, BitVec.ofInt_natCast, BitVec.toNat_xor, BitVec.toNat_ofNat, BitVec.toNat_ofNat]
  have e1 : x % 2 ^ IntKind.u32.bits = x := Nat.mod_eq_of_lt hx
  have e2 : y % 2 ^ IntKind.u32.bits = y := Nat.mod_eq_of_lt hy
  rw [e1, e2]
  exact wrap32 (xor_lt hx hy)
theorem updN_lt {x b : Nat} (hx : x < 4294967296) (hb : b < 256) : updN x b < 4294967296 := by
  unfold updN
  exact xor_lt (step8_lt (xor8 (by omega) hb)) (by omega)
theorem crcF_lt : ∀ (l : List UInt8) {x : Nat}, x < 4294967296 → crcF x l < 4294967296
  | [], _, h => h
  | b :: l, x, h => crcF_lt l (updN_lt h (by exact b.toNat_lt))
theorem crcL_get {i : Nat} (h : i < 256) : (crcV crcL)[i]? = some (.int .u32 (step8 i : Nat)) := by
  rw [crcL_eq]
  unfold crcV
  rw [List.getElem?_map, List.getElem?_map, List.getElem?_range h]
  rfl
theorem SU_cell (i : Nat) : SU.cell? ⟨9, i, none⟩ = (crcV crcL)[i]? := by kernel_rfl

theorem nextU (c : List Value) (n g : Nat) (x i b y : Int) (w : Nat → Value) (h1 : decide (i < n) = true) (h2 : 0 ≤ i ∧ i < n) (h3 : c[i.toNat * 1]? = some (.int .u8 b)) (h4 : 0 ≤ uIx x b ∧ uIx x b < 256)
    (h5 : SU.cell? ⟨9, 0 + (uIx x b).toNat * 1, none⟩ = some (.int .u32 y)) :
    ∃ w', runW Tryz.prog (envT t2) 0 (.code ⟨150, none⟩ bodyU (TU c n g x i w) []) SU = some (.done .normal (TU c n g (uX x y) (IntKind.i64.wrap (i + 1)) w') [], SU) :=
  seg 100 [(1, .br true), (0, .ok), (0, .is (.int .u8 b)), (5, .ok), (0, .is (.int .u32 y))] (m := 30) (js := [5, 6, 12, 13, 14]) (vs := [.pointer (some ⟨9, 0, none⟩), .int .u32 (uX x y), L c n 1 g, .int .i64 n, .int .i64 (IntKind.i64.wrap (i + 1))])
    (ob := [decide (i < n) = true, 0 ≤ i ∧ i < n, c[i.toNat * 1]? = some (.int .u8 b), 0 ≤ uIx x b ∧ uIx x b < 256, SU.cell? ⟨9, 0 + (uIx x b).toNat * 1, none⟩ = some (.int .u32 y)]) (by kernel_rfl) ⟨h1, h2, h3, h4, h5⟩
theorem endU (c : List Value) (n g : Nat) (x i : Int) (w : Nat → Value) (h1 : decide (i < n) = false) :
    ∃ w', runW Tryz.prog (envT t2) 0 (.code ⟨150, none⟩ bodyU (TU c n g x i w) []) SU = some (.done (.exit 0) (TU c n g x i w') [], SU) :=
  seg 100 [(1, .br false)] (m := 30) (js := [5, 6, 12, 13, 14]) (vs := [.pointer (some ⟨9, 0, none⟩), .int .u32 x, L c n 1 g, .int .i64 n, .int .i64 i]) (ob := [decide (i < n) = false]) (by kernel_rfl) h1

theorem loopU (bs : List UInt8) (n g : Nat) (hn : bs.length = n) (hn2 : n < 4611686018427387904) : ∀ (d i x : Nat) (w : Nat → Value), i + d = n → x < 4294967296 →
    ∃ w', runW Tryz.prog (envT t2) 0 (.code ⟨150, none⟩ (.loop bodyU) (TU (bys bs) n g x i w) []) SU = some (.done (.exit 0) (TU (bys bs) n g (crcF x (bs.drop i) : Nat) n w') [], SU) := by
  intro d
  induction d with
  | zero =>
    intro i x w hd hx
    obtain rfl : i = n := by omega
    obtain ⟨w', h⟩ := endU (bys bs) i g x i w (decide_eq_false (by omega))
    rw [List.drop_of_length_le (by omega)]
    exact ⟨w', loop_out (by intro h; cases h) h⟩
  | succ d ih =>
    intro i x w hd hx
    have hi : i < bs.length := by omega
    have hb := bs[i].toNat_lt
    have hb : bs[i].toNat < 256 := hb
    have hix := xor8 (a := x % 256) (b := bs[i].toNat) (by omega) hb
    obtain ⟨w1, h⟩ := nextU (bys bs) n g x i bs[i].toNat (step8 (Nat.xor (x % 256) bs[i].toNat) : Nat) w (decide_eq_true (by omega)) (by omega)
      (by unfold bys; rw [Int.toNat_natCast, Nat.mul_one, List.getElem?_map, List.getElem?_eq_getElem hi]; rfl)
      (by rw [uIx_nat _ _ hb]; omega) (by rw [uIx_nat _ _ hb, Int.toNat_natCast, Nat.mul_one, Nat.zero_add, SU_cell, crcL_get hix])
    rw [wrap64 (by omega) (by omega), uX_nat hx (step8_lt hix)] at h
    obtain ⟨w', h'⟩ := ih (i + 1) (updN x bs[i].toNat) w1 (by omega) (updN_lt hx hb)
    refine ⟨w', ?_⟩
    rw [List.drop_eq_getElem_cons hi]
    exact loop_next h h'

def wU (c : List Value) (n g : Nat) (s : Int) : Nat → Value := fun j => Go.Va.look [(0, .int .u32 s), (1, L c n 1 g), (4, .int .u32 0), (9, tabV), (10, .int .u32 s), (11, .int .u32 (uN s 4294967295))] j undef
set_option maxRecDepth 100000 in
theorem p150 (s : Nat) (hs : s < 4294967296) (bs : List UInt8) (g : Nat) (hn : bs.length < 4611686018427387904) : Pure Tryz.prog 9 tabs 150 [.int .u32 s, L (bys bs) bs.length 1 g] (.int .u32 (crcU s bs : Nat)) := by
  have h0 : uN s 4294967295 = (Nat.xor s 4294967295 : Nat) := uN_nat (y := 4294967295) hs (by omega)
  obtain ⟨w', h⟩ := loopU bs bs.length g rfl hn bs.length 0 (Nat.xor s 4294967295) (wU (bys bs) bs.length g s) (by omega) (xor_lt hs (by omega))
  rw [List.drop_zero, ← h0] at h
  have e : (crcU s bs : Int) = uN (crcF (Nat.xor s 4294967295) bs : Nat) 4294967295 := (uN_nat (y := 4294967295) (crcF_lt bs (xor_lt hs (by omega))) (by omega)).symm
  rw [e]
  exact pureT t2_ok (n := 100) (v := .int .u32 (uN (crcF (Nat.xor s 4294967295) bs : Nat) 4294967295)) [(10, .skip (.done (.exit 0) (TU (bys bs) bs.length g (crcF (Nat.xor s 4294967295) bs : Nat) bs.length w') []) SU)] [_] (by kernel_rfl) h rfl (.int _ _)
set_option maxRecDepth 100000 in
theorem p150_nil (s : Nat) (hs : s < 4294967296) : Pure Tryz.prog 9 tabs 150 [.int .u32 s, .slice none 0 0] (.int .u32 (crcU s [] : Nat)) := by
  have h0 : uN s 4294967295 = (Nat.xor s 4294967295 : Nat) := uN_nat (y := 4294967295) hs (by omega)
  have e : (crcU s [] : Int) = uN (uN s 4294967295) 4294967295 := by
    rw [h0]
    exact (uN_nat (y := 4294967295) (xor_lt hs (by omega)) (by omega)).symm
  rw [e]
  exact pureT t2_ok (n := 100) (v := .int .u32 (uN (uN s 4294967295) 4294967295)) [] [] (by kernel_rfl) trivial rfl (.int _ _)

def inW (s : Int) : Bool := decide (0 ≤ s) && decide (s < 4294967296)
def k150 : List Value → Option Value
  | [.int .u32 s, v] => (match asB v with
    | some l => bif inW s then some (.int .u32 (crcU s.toNat l : Nat)) else none
    | none => none)
  | _ => none
theorem k150_ok : KOk Tryz.prog 9 tabs 150 k150 := by
  intro args u h
  unfold k150 at h
  split at h
  · rename_i s v
    split at h
    · rename_i l hl
      cases hw : inW s with
      | false => rw [hw] at h; cases h
      | true =>
        rw [hw, cond_true] at h
        cases h
        simp only [inW, Bool.and_eq_true, decide_eq_true_eq] at hw
        obtain ⟨n, rfl⟩ := Int.eq_ofNat_of_zero_le hw.1
        rw [Int.toNat_natCast]
        rcases asB_spec hl with ⟨rfl, rfl⟩ | ⟨g, _, rfl, hn⟩
        · exact p150_nil n (by omega)
        · exact p150 n (by omega) l g hn
    · cases h
  · cases h
def t3 : Ktab := (150, k150) :: t1
theorem t3_ok : TOk Tryz.prog 9 tabs t3 := ⟨k150_ok, t1_ok⟩

end Go.Proofs.YtcjjlajpbakaoaaGreatDoor
