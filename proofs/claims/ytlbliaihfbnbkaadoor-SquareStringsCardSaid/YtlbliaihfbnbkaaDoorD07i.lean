/-
  SQUARE (chapter 07): a name is decoded: Parse, of the program.
-/
import Derived.Test.YtlbliaihfbnbkaaDoorD07h
import Derived.Laws.RangeString
import Derived.Laws.RangeAny
namespace Go.Proofs.YtlbliaihfbnbkaaDoor
open Go.Va

theorem runes_acc (s : ByteArray) : ∀ (b i : Nat) (acc : Array Value), (Conv.runesFrom s b i acc).toList = acc.toList ++ (Conv.runesFrom s b i #[]).toList
  | 0, i, acc => by simp [Conv.runesFrom]
  | b + 1, i, acc => by
    unfold Conv.runesFrom
    split
    · dsimp only
      rw [runes_acc s b _ (acc.push _), runes_acc s b _ (#[].push _)]
      simp
    · simp
theorem runes_step (s : ByteArray) (b i : Nat) (h : i < s.size) : (Conv.runesFrom s (b + 1) i #[]).toList = .int .i32 (Int.ofNat (Utf8.decode s i).1) :: (Conv.runesFrom s b (i + (Utf8.decode s i).2) #[]).toList := by
  conv => lhs; unfold Conv.runesFrom
  rw [if_pos h]
  dsimp only
  rw [runes_acc]
  simp

/-- A string of two bytes of ASCII: its runes are its bytes. -/
theorem runes_two {a b : UInt8} (ha : a.toNat < 128) (hb : b.toNat < 128) : (Conv.runesFrom ⟨#[a, b]⟩ 2 0 #[]).toList = [.int .i32 a.toNat, .int .i32 b.toNat] := by
  have h0 : 0 < (⟨#[a, b]⟩ : ByteArray).size := Nat.zero_lt_succ _
  have h1 : 1 < (⟨#[a, b]⟩ : ByteArray).size := Nat.succ_lt_succ (Nat.zero_lt_succ _)
  rw [runes_step _ 1 0 h0]
  rw [show Utf8.decode ⟨#[a, b]⟩ 0 = (a.toNat, 1) from Go.decode_ascii _ 0 h0 ha]
  show _ :: (Conv.runesFrom ⟨#[a, b]⟩ (0 + 1) 1 #[]).toList = _
  rw [runes_step _ 0 1 h1]
  rw [show Utf8.decode ⟨#[a, b]⟩ 1 = (b.toNat, 1) from Go.decode_ascii _ 1 h1 hb]
  rfl

theorem two_runes {s : ByteArray} {x y : Int} (h : (Conv.runesFrom s s.size 0 #[]).toList = [.int .i32 x, .int .i32 y]) (hx : x < 128) (hy : y < 128) :
    ∃ a b : UInt8, s = ⟨#[a, b]⟩ ∧ x = a.toNat ∧ y = b.toNat ∧ a.toNat < 128 ∧ b.toNat < 128 := by
  have one : ∀ i, (hi : i < s.size) → (Utf8.decode s i).1 < 128 → (s[i]'hi).toNat < 128 ∧ Utf8.decode s i = ((s[i]'hi).toNat, 1) := by
    intro i hi hd
    by_cases hlt : (s[i]'hi).toNat < 128
    · exact ⟨hlt, Go.decode_ascii s i hi hlt⟩
    · have := (Go.decode_high s i hi (by omega)).1
      omega
  cases hn : s.size with
  | zero => rw [hn] at h; cases h
  | succ m =>
    have h0 : 0 < s.size := by omega
    rw [hn, runes_step s m 0 h0] at h
    simp only [List.cons.injEq, Value.int.injEq, true_and] at h
    obtain ⟨hx', h⟩ := h
    obtain ⟨b0, d0⟩ := one 0 h0 (by simp only [Int.ofNat_eq_natCast] at hx'; omega)
    rw [d0] at hx' h
    cases m with
    | zero => cases h
    | succ k =>
      have h1 : 1 < s.size := by omega
      rw [Nat.zero_add, runes_step s k 1 h1] at h
      simp only [List.cons.injEq, Value.int.injEq, true_and] at h
      obtain ⟨hy', h⟩ := h
      obtain ⟨b1, d1⟩ := one 1 h1 (by simp only [Int.ofNat_eq_natCast] at hy'; omega)
      rw [d1] at hy' h
      cases k with
      | zero =>
        refine ⟨s[0]'h0, s[1]'h1, ?_, hx'.symm, hy'.symm, b0, b1⟩
        cases s with
        | mk d =>
          have hd : d.size = 2 := hn
          congr
          refine Array.ext hd fun i hi hi' => ?_
          have : i < 2 := hi'
          match i, this with
          | 0, _ => rfl
          | 1, _ => rfl
      | succ j =>
        have h2 : 2 < s.size := by omega
        have h' : (Conv.runesFrom s (j + 1) 2 #[]).toList = [] := h
        rw [runes_step s j 2 h2] at h'
        cases h'

def okBytes (a b : UInt8) : Bool := Nat.ble 97 a.toNat && Nat.ble a.toNat 104 && Nat.ble 49 b.toNat && Nat.ble b.toNat 56
def parseB (s : ByteArray) : Bool := match s.data.toList with
  | [a, b] => okBytes a b
  | _ => false
def parseI (s : ByteArray) : Int := match s.data.toList with
  | [a, b] => bif okBytes a b then 8 * ((b.toNat : Int) - 49) + ((a.toNat : Int) - 97) else 0
  | _ => 0
def formOr (b : Bool) : Int := bif b then 0 else 8
def parseV (s : ByteArray) : Value := .tuple #[.int .i64 (parseI s), .int .i64 (formOr (parseB s))]

theorem okBytes_iff {a b : UInt8} : okBytes a b = true ↔ 97 ≤ a.toNat ∧ a.toNat ≤ 104 ∧ 49 ≤ b.toNat ∧ b.toNat ≤ 56 := by
  unfold okBytes
  simp only [Bool.and_eq_true, Nat.ble_eq]
  omega

theorem parse_bad {s : ByteArray} (h : ∀ a b : UInt8, s.data.toList = [a, b] → okBytes a b = false) : parseV s = .tuple #[.int .i64 0, .int .i64 8] := by
  unfold parseV parseI parseB
  split
  · rename_i a b hs
    rw [h a b hs]; rfl
  · rfl

theorem wrap32 {n : Int} (h1 : -2147483648 ≤ n) (h2 : n ≤ 2147483647) : IntKind.i32.wrap n = n := wrap_fits .i32 h1 h2

theorem p23 (s : ByteArray) : Pure Tryd.prog 3 [] 23 [.string s] (parseV s) := by
  by_cases hlen : (Conv.runesFrom s s.size 0 #[]).toList.length = 2
  · have hall : ∀ v ∈ (Conv.runesFrom s s.size 0 #[]).toList, ∃ n : Nat, v = .int .i32 n ∧ n ≤ 2147483647 := by
      have : ∀ (b i : Nat), ∀ v ∈ (Conv.runesFrom s b i #[]).toList, ∃ n : Nat, v = .int .i32 n ∧ n ≤ 2147483647 := by
        intro b
        induction b with
        | zero => intro i v hv; cases hv
        | succ b ih =>
          intro i v hv
          by_cases hi : i < s.size
          · rw [runes_step s b i hi] at hv
            rcases List.mem_cons.1 hv with rfl | hv
            · exact ⟨_, rfl, Go.decode_le s i⟩
            · exact ih _ v hv
          · unfold Conv.runesFrom at hv; rw [if_neg hi] at hv; cases hv
      exact this _ _
    obtain ⟨u, v, huv⟩ : ∃ u v, (Conv.runesFrom s s.size 0 #[]).toList = [u, v] := by
      match hl : (Conv.runesFrom s s.size 0 #[]).toList, hlen with
      | [u, v], _ => exact ⟨u, v, rfl⟩
    obtain ⟨x, rfl, hxl⟩ := hall u (by rw [huv]; simp)
    obtain ⟨y, rfl, hyl⟩ := hall v (by rw [huv]; simp)
    have ex : IntKind.i64.wrap (IntKind.i32.wrap ((x : Int) - 97)) = x - 97 := by rw [wrap32 (by omega) (by omega), wrap64 (by omega) (by omega)]
    have ey : IntKind.i64.wrap (IntKind.i32.wrap ((y : Int) - 49)) = y - 49 := by rw [wrap32 (by omega) (by omega), wrap64 (by omega) (by omega)]
    cases hb : atB ((x : Int) - 97) ((y : Int) - 49) with
    | false =>
      rw [parse_bad (s := s)]
      · refine pureA (n := 1000) [(3, .cells [.int .i32 x, .int .i32 y]), (23, .br true)]
          [(Conv.runesFrom s s.size 0 #[]).toList = [.int .i32 x, .int .i32 y], (okOr (atB (IntKind.i64.wrap (IntKind.i32.wrap ((x : Int) - 97))) (IntKind.i64.wrap (IntKind.i32.wrap ((y : Int) - 49)))) != 0) = true] (by kernel_rfl) ⟨huv, ?_⟩ rfl rfl
        rw [ex, ey, hb]; rfl
      · intro a b hs
        cases ho : okBytes a b with
        | false => rfl
        | true =>
          rw [okBytes_iff] at ho
          have es : s = ⟨#[a, b]⟩ := ba_ext hs
          rw [es, show (⟨#[a, b]⟩ : ByteArray).size = 2 from rfl, runes_two (by omega) (by omega)] at huv
          simp only [List.cons.injEq, Value.int.injEq, true_and, and_true] at huv
          have : atB ((x : Int) - 97) ((y : Int) - 49) = true := by
            rw [← huv.1, ← huv.2]; exact atB_true (by omega)
          rw [this] at hb; cases hb
    | true =>
      have hr : 0 ≤ (x : Int) - 97 ∧ (x : Int) - 97 < 8 ∧ 0 ≤ (y : Int) - 49 ∧ (y : Int) - 49 < 8 := by
        simp only [atB, Bool.and_eq_true, decide_eq_true_eq] at hb; omega
      obtain ⟨a, b, es, hxa, hyb, _, _⟩ := two_runes huv (by omega) (by omega)
      have hp : parseV s = .tuple #[.int .i64 (8 * ((y : Int) - 49) + ((x : Int) - 97)), .int .i64 0] := by
        have ho : okBytes a b = true := okBytes_iff.2 (by omega)
        rw [es]
        show Value.tuple #[.int .i64 (bif okBytes a b then 8 * ((b.toNat : Int) - 49) + ((a.toNat : Int) - 97) else 0), .int .i64 (formOr (okBytes a b))] = _
        rw [ho, cond_true, hxa, hyb]; rfl
      have hv := pureA (n := 1000) (f := 23) (args := [.string s]) [(3, .cells [.int .i32 x, .int .i32 y]), (23, .br false)]
          [(Conv.runesFrom s s.size 0 #[]).toList = [.int .i32 x, .int .i32 y], (okOr (atB (IntKind.i64.wrap (IntKind.i32.wrap ((x : Int) - 97))) (IntKind.i64.wrap (IntKind.i32.wrap ((y : Int) - 49)))) != 0) = false]
          (v := .tuple #[.int .i64 (atS (IntKind.i64.wrap (IntKind.i32.wrap ((x : Int) - 97))) (IntKind.i64.wrap (IntKind.i32.wrap ((y : Int) - 49)))), .int .i64 0])
          (by kernel_rfl) ⟨huv, by rw [ex, ey, hb]; rfl⟩ rfl rfl
      rw [ex, ey] at hv
      rw [hp, show (8 * ((y : Int) - 49) + ((x : Int) - 97)) = atS ((x : Int) - 97) ((y : Int) - 49) by simp [atS, hb]]
      exact hv
  · rw [parse_bad (s := s)]
    · refine pureA (n := 1000) [(8, .br true)] [((((Conv.runesFrom s s.size 0 #[]).toList.length : Nat) : Int) != 2) = true] (by kernel_rfl) ?_ rfl rfl
      show _ = true
      simp only [bne_iff_ne, ne_eq]
      omega
    · intro a b hs
      cases ho : okBytes a b with
      | false => rfl
      | true =>
        rw [okBytes_iff] at ho
        have es : s = ⟨#[a, b]⟩ := ba_ext hs
        exfalso
        apply hlen
        rw [es, show (⟨#[a, b]⟩ : ByteArray).size = 2 from rfl, runes_two (by omega) (by omega)]
        rfl

end Go.Proofs.YtlbliaihfbnbkaaDoor
