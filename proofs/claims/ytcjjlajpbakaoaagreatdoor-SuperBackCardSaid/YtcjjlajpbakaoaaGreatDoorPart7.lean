/-
  The functions that the statement reaches: what they answer, part 7.
-/
import Derived.Test.YtcjjlajpbakaoaaGreatDoorD36bm
import Derived.Test.YtcjjlajpbakaoaaGreatDoorD36au
import Derived.Test.YtcjjlajpbakaoaaGreatDoorPart9
import Derived.Test.YtcjjlajpbakaoaaGreatDoorD36bd

/-
  SUPERBLOCK (chapter 36): Parse replaced; what it answers is valid.
-/
namespace Go.Proofs.YtcjjlajpbakaoaaGreatDoor
open Go.Va

def k18 : List Value → Option Value
  | [.string s] => bif Nat.blt s.size 100000 then some (parV s) else none
  | _ => none
theorem k18_ok : KOk Tryz.prog 9 tabs 18 k18 := by
  intro args u h
  unfold k18 at h
  split at h
  · rename_i s
    cases hb : Nat.blt s.size 100000 with
    | false => rw [hb] at h; cases h
    | true =>
      rw [hb, cond_true] at h
      cases h
      exact p18 s (blt_iff.1 hb)
  · cases h
def tR : Ktab := (25, k25) :: (18, k18) :: (16, k16) :: t13
theorem tR_ok : TOk Tryz.prog 9 tabs tR := ⟨k25_ok, k18_ok, k16_ok, t13_ok⟩
def tRv : Ktab := (18, k18) :: (16, k16) :: t13
theorem tRv_ok : TOk Tryz.prog 9 tabs tRv := ⟨k18_ok, k16_ok, t13_ok⟩

theorem finV_spec (s : ByteArray) (a b c d x : Int) : finV s a b c d x = e8 ∨ (finV s a b c d x = .tuple #[cfg a b c d x, .int .i64 0] ∧ chk a b c d x = true ∧ (textS a.toNat b.toNat c.toNat d.toNat x.toNat).toList = s.toList) := by
  unfold finV
  cases h : (chk a b c d x && ((textS a.toNat b.toNat c.toNat d.toNat x.toNat).toList == s.toList)) with
  | false => exact .inl rfl
  | true =>
    rw [Bool.and_eq_true] at h
    exact .inr ⟨rfl, h.1, eq_of_beq h.2⟩
/-- What is decoded from a string is valid, and the string is its own. -/
theorem par_spec (s : ByteArray) : parV s = e8 ∨ ∃ a b c d x : Nat, parV s = .tuple #[cfg a b c d x, .int .i64 0] ∧ chk a b c d x = true ∧ x < 18446744073709551616 ∧ (textS a b c d x).toList = s.toList := by
  have key : ∀ (a b c d : Int) (x : Nat), x < 18446744073709551616 → finV s a b c d x = e8 ∨ ∃ a' b' c' d' x' : Nat, finV s a b c d x = .tuple #[cfg a' b' c' d' x', .int .i64 0] ∧ chk a' b' c' d' x' = true ∧ x' < 18446744073709551616 ∧ (textS a' b' c' d' x').toList = s.toList := by
    intro a b c d x hx
    rcases finV_spec s a b c d x with h | ⟨h1, h2, h3⟩
    · exact .inl h
    · obtain ⟨k1, k2, k3, k4, k5, k6, k7, k8, _⟩ := chk_spec h2
      obtain ⟨a', rfl⟩ := Int.eq_ofNat_of_zero_le (show 0 ≤ a by omega)
      obtain ⟨b', rfl⟩ := Int.eq_ofNat_of_zero_le (show 0 ≤ b by omega)
      obtain ⟨c', rfl⟩ := Int.eq_ofNat_of_zero_le (show 0 ≤ c by omega)
      obtain ⟨d', rfl⟩ := Int.eq_ofNat_of_zero_le (show 0 ≤ d by omega)
      simp only [Int.toNat_natCast] at h3
      exact .inr ⟨a', b', c', d', x, h1, h2, hx, h3⟩
  unfold parV
  generalize splS s sp = ps
  unfold parL
  split
  · split
    · split
      · split
        · rename_i x0 x1 x2 x3 r _ v0 _ _ v1 _ _ v2 _
          cases h : Nat.beq (tabN x3) 2 with
          | false =>
            rw [cond_false]
            exact key v0 v1 v2 (tabN x3 : Nat) 0 (by omega)
          | true =>
            rw [cond_true]
            split
            · split
              · rename_i u hu
                exact key v0 v1 v2 2 u (puB_lt hu)
              · exact .inl rfl
            · exact key v0 v1 v2 2 0 (by omega)
        · exact .inl rfl
      · exact .inl rfl
    · exact .inl rfl
  · exact .inl rfl

end Go.Proofs.YtcjjlajpbakaoaaGreatDoor

/-
  SUPERBLOCK (chapter 36): SuperReads.
-/
namespace Go.Proofs.YtcjjlajpbakaoaaGreatDoor
open Go.Va

theorem rd_big (t : ByteArray) (q : List Value) (n : Nat) (h0 : decide ((n : Int) > 300) = true) :
    Pure Tryz.prog 9 tabs 7 [L q n 1 0, .string t] (.bool true) :=
  pureT tR_ok (n := 4000) (v := .bool true) [(4, .br true)]
    [decide ((n : Int) > 300) = true] (by kernel_rfl) h0 rfl (.bool _)
theorem rd_bigt (t : ByteArray) (q : List Value) (n : Nat) (h0 : decide ((n : Int) > 300) = false) (h1 : decide ((t.size : Int) > 300) = true) :
    Pure Tryz.prog 9 tabs 7 [L q n 1 0, .string t] (.bool true) :=
  pureT tR_ok (n := 4000) (v := .bool true) [(4, .br false), (4, .br true)]
    [decide ((n : Int) > 300) = false, decide ((t.size : Int) > 300) = true] (by kernel_rfl) ⟨h0, h1⟩ rfl (.bool _)
theorem rd_ok_ok (e a b c d s a' b' c' d' s' : Int) (sb so t T : ByteArray) (q q7 : List Value) (n : Nat) (h0 : decide ((n : Int) > 300) = false) (h1 : decide ((t.size : Int) > 300) = false) (h2 : ∀ σ, (envT tR).ov 25 [L q n 1 0] 0 σ = some (.tuple #[sup e a b c d s, .int .i64 0], σ)) (h3 : ∀ σ, (envT tR).ov 18 [.string t] 0 σ = some (.tuple #[cfg a' b' c' d' s', .int .i64 0], σ)) (h4 : ∀ σ, (envT tR).ov 22 [sup e a b c d s] 0 σ = some (.tuple #[L q7 128 1 1, .int .i64 0], σ)) (h5 : decide ((n : Int) < 128) = false) (h6 : ((bif chk a b c d s then (0 : Int) else 2) != 0) = false) (h7 : strL Tryz.prog 37 9 q7 1 = some (.string so)) (h8 : (0 : Int) ≤ 128 ∧ (128 : Int) ≤ n) (h9 : strL Tryz.prog 37 9 (q.take ((128 : Int).toNat * 1)) 1 = some (.string sb)) (h10 : (!(so.toList == sb.toList)) = false) (h11 : ∀ σ, (envT tR).ov 16 [cfg a' b' c' d' s'] 0 σ = some (.tuple #[.string T, .int .i64 0], σ)) (h12 : (T.toList == t.toList) = true) :
    Pure Tryz.prog 9 tabs 7 [L q n 1 0, .string t] (.bool true) :=
  pureT tR_ok (n := 4000) (v := .bool true) [(4, .br false), (4, .br false), (1, .ov (.tuple #[sup e a b c d s, .int .i64 0])), (7, .ov (.tuple #[cfg a' b' c' d' s', .int .i64 0])), (10, .ov (.tuple #[L q7 128 1 1, .int .i64 0])), (8, .br false), (5, .br false), (5, .is (.string so)), (1, .ok), (0, .is (.string sb)), (2, .br false), (4, .ov (.tuple #[.string T, .int .i64 0])), (12, .br true)]
    [decide ((n : Int) > 300) = false, decide ((t.size : Int) > 300) = false, ∀ σ, (envT tR).ov 25 [L q n 1 0] 0 σ = some (.tuple #[sup e a b c d s, .int .i64 0], σ), ∀ σ, (envT tR).ov 18 [.string t] 0 σ = some (.tuple #[cfg a' b' c' d' s', .int .i64 0], σ), ∀ σ, (envT tR).ov 22 [sup e a b c d s] 0 σ = some (.tuple #[L q7 128 1 1, .int .i64 0], σ), decide ((n : Int) < 128) = false, ((bif chk a b c d s then (0 : Int) else 2) != 0) = false, strL Tryz.prog 37 9 q7 1 = some (.string so), (0 : Int) ≤ 128 ∧ (128 : Int) ≤ n, strL Tryz.prog 37 9 (q.take ((128 : Int).toNat * 1)) 1 = some (.string sb), (!(so.toList == sb.toList)) = false, ∀ σ, (envT tR).ov 16 [cfg a' b' c' d' s'] 0 σ = some (.tuple #[.string T, .int .i64 0], σ), (T.toList == t.toList) = true] (by kernel_rfl) ⟨h0, h1, h2, h3, h4, h5, h6, h7, h8, h9, h10, h11, h12⟩ rfl (.bool _)
theorem rd_ok_no (e a b c d s : Int) (sb so t : ByteArray) (q q7 : List Value) (n : Nat) (h0 : decide ((n : Int) > 300) = false) (h1 : decide ((t.size : Int) > 300) = false) (h2 : ∀ σ, (envT tR).ov 25 [L q n 1 0] 0 σ = some (.tuple #[sup e a b c d s, .int .i64 0], σ)) (h3 : ∀ σ, (envT tR).ov 18 [.string t] 0 σ = some (e8, σ)) (h4 : ∀ σ, (envT tR).ov 22 [sup e a b c d s] 0 σ = some (.tuple #[L q7 128 1 1, .int .i64 0], σ)) (h5 : decide ((n : Int) < 128) = false) (h6 : ((bif chk a b c d s then (0 : Int) else 2) != 0) = false) (h7 : strL Tryz.prog 37 9 q7 1 = some (.string so)) (h8 : (0 : Int) ≤ 128 ∧ (128 : Int) ≤ n) (h9 : strL Tryz.prog 37 9 (q.take ((128 : Int).toNat * 1)) 1 = some (.string sb)) (h10 : (!(so.toList == sb.toList)) = false) :
    Pure Tryz.prog 9 tabs 7 [L q n 1 0, .string t] (.bool true) :=
  pureT tR_ok (n := 4000) (v := .bool true) [(4, .br false), (4, .br false), (1, .ov (.tuple #[sup e a b c d s, .int .i64 0])), (7, .ov e8), (10, .ov (.tuple #[L q7 128 1 1, .int .i64 0])), (8, .br false), (5, .br false), (5, .is (.string so)), (1, .ok), (0, .is (.string sb)), (2, .br false)]
    [decide ((n : Int) > 300) = false, decide ((t.size : Int) > 300) = false, ∀ σ, (envT tR).ov 25 [L q n 1 0] 0 σ = some (.tuple #[sup e a b c d s, .int .i64 0], σ), ∀ σ, (envT tR).ov 18 [.string t] 0 σ = some (e8, σ), ∀ σ, (envT tR).ov 22 [sup e a b c d s] 0 σ = some (.tuple #[L q7 128 1 1, .int .i64 0], σ), decide ((n : Int) < 128) = false, ((bif chk a b c d s then (0 : Int) else 2) != 0) = false, strL Tryz.prog 37 9 q7 1 = some (.string so), (0 : Int) ≤ 128 ∧ (128 : Int) ≤ n, strL Tryz.prog 37 9 (q.take ((128 : Int).toNat * 1)) 1 = some (.string sb), (!(so.toList == sb.toList)) = false] (by kernel_rfl) ⟨h0, h1, h2, h3, h4, h5, h6, h7, h8, h9, h10⟩ rfl (.bool _)
theorem rd_13_ok (a' b' c' d' s' : Int) (t T : ByteArray) (q : List Value) (n : Nat) (h0 : decide ((n : Int) > 300) = false) (h1 : decide ((t.size : Int) > 300) = false) (h2 : ∀ σ, (envT tR).ov 25 [L q n 1 0] 0 σ = some (err 13, σ)) (h3 : ∀ σ, (envT tR).ov 18 [.string t] 0 σ = some (.tuple #[cfg a' b' c' d' s', .int .i64 0], σ)) (h4 : ∀ σ, (envT tR).ov 16 [cfg a' b' c' d' s'] 0 σ = some (.tuple #[.string T, .int .i64 0], σ)) (h5 : (T.toList == t.toList) = true) :
    Pure Tryz.prog 9 tabs 7 [L q n 1 0, .string t] (.bool true) :=
  pureT tR_ok (n := 4000) (v := .bool true) [(4, .br false), (4, .br false), (1, .ov (err 13)), (7, .ov (.tuple #[cfg a' b' c' d' s', .int .i64 0])), (25, .ov (.tuple #[.string T, .int .i64 0])), (12, .br true)]
    [decide ((n : Int) > 300) = false, decide ((t.size : Int) > 300) = false, ∀ σ, (envT tR).ov 25 [L q n 1 0] 0 σ = some (err 13, σ), ∀ σ, (envT tR).ov 18 [.string t] 0 σ = some (.tuple #[cfg a' b' c' d' s', .int .i64 0], σ), ∀ σ, (envT tR).ov 16 [cfg a' b' c' d' s'] 0 σ = some (.tuple #[.string T, .int .i64 0], σ), (T.toList == t.toList) = true] (by kernel_rfl) ⟨h0, h1, h2, h3, h4, h5⟩ rfl (.bool _)
theorem rd_13_no (t : ByteArray) (q : List Value) (n : Nat) (h0 : decide ((n : Int) > 300) = false) (h1 : decide ((t.size : Int) > 300) = false) (h2 : ∀ σ, (envT tR).ov 25 [L q n 1 0] 0 σ = some (err 13, σ)) (h3 : ∀ σ, (envT tR).ov 18 [.string t] 0 σ = some (e8, σ)) :
    Pure Tryz.prog 9 tabs 7 [L q n 1 0, .string t] (.bool true) :=
  pureT tR_ok (n := 4000) (v := .bool true) [(4, .br false), (4, .br false), (1, .ov (err 13)), (7, .ov e8)]
    [decide ((n : Int) > 300) = false, decide ((t.size : Int) > 300) = false, ∀ σ, (envT tR).ov 25 [L q n 1 0] 0 σ = some (err 13, σ), ∀ σ, (envT tR).ov 18 [.string t] 0 σ = some (e8, σ)] (by kernel_rfl) ⟨h0, h1, h2, h3⟩ rfl (.bool _)
theorem rd_8_ok (a' b' c' d' s' : Int) (t T : ByteArray) (q : List Value) (n : Nat) (h0 : decide ((n : Int) > 300) = false) (h1 : decide ((t.size : Int) > 300) = false) (h2 : ∀ σ, (envT tR).ov 25 [L q n 1 0] 0 σ = some (err 8, σ)) (h3 : ∀ σ, (envT tR).ov 18 [.string t] 0 σ = some (.tuple #[cfg a' b' c' d' s', .int .i64 0], σ)) (h4 : ∀ σ, (envT tR).ov 16 [cfg a' b' c' d' s'] 0 σ = some (.tuple #[.string T, .int .i64 0], σ)) (h5 : (T.toList == t.toList) = true) :
    Pure Tryz.prog 9 tabs 7 [L q n 1 0, .string t] (.bool true) :=
  pureT tR_ok (n := 4000) (v := .bool true) [(4, .br false), (4, .br false), (1, .ov (err 8)), (7, .ov (.tuple #[cfg a' b' c' d' s', .int .i64 0])), (27, .ov (.tuple #[.string T, .int .i64 0])), (12, .br true)]
    [decide ((n : Int) > 300) = false, decide ((t.size : Int) > 300) = false, ∀ σ, (envT tR).ov 25 [L q n 1 0] 0 σ = some (err 8, σ), ∀ σ, (envT tR).ov 18 [.string t] 0 σ = some (.tuple #[cfg a' b' c' d' s', .int .i64 0], σ), ∀ σ, (envT tR).ov 16 [cfg a' b' c' d' s'] 0 σ = some (.tuple #[.string T, .int .i64 0], σ), (T.toList == t.toList) = true] (by kernel_rfl) ⟨h0, h1, h2, h3, h4, h5⟩ rfl (.bool _)
theorem rd_8_no (t : ByteArray) (q : List Value) (n : Nat) (h0 : decide ((n : Int) > 300) = false) (h1 : decide ((t.size : Int) > 300) = false) (h2 : ∀ σ, (envT tR).ov 25 [L q n 1 0] 0 σ = some (err 8, σ)) (h3 : ∀ σ, (envT tR).ov 18 [.string t] 0 σ = some (e8, σ)) :
    Pure Tryz.prog 9 tabs 7 [L q n 1 0, .string t] (.bool true) :=
  pureT tR_ok (n := 4000) (v := .bool true) [(4, .br false), (4, .br false), (1, .ov (err 8)), (7, .ov e8)]
    [decide ((n : Int) > 300) = false, decide ((t.size : Int) > 300) = false, ∀ σ, (envT tR).ov 25 [L q n 1 0] 0 σ = some (err 8, σ), ∀ σ, (envT tR).ov 18 [.string t] 0 σ = some (e8, σ)] (by kernel_rfl) ⟨h0, h1, h2, h3⟩ rfl (.bool _)
theorem rd_12_ok (a' b' c' d' s' : Int) (t T : ByteArray) (q : List Value) (n : Nat) (h0 : decide ((n : Int) > 300) = false) (h1 : decide ((t.size : Int) > 300) = false) (h2 : ∀ σ, (envT tR).ov 25 [L q n 1 0] 0 σ = some (err 12, σ)) (h3 : ∀ σ, (envT tR).ov 18 [.string t] 0 σ = some (.tuple #[cfg a' b' c' d' s', .int .i64 0], σ)) (h4 : ∀ σ, (envT tR).ov 16 [cfg a' b' c' d' s'] 0 σ = some (.tuple #[.string T, .int .i64 0], σ)) (h5 : (T.toList == t.toList) = true) :
    Pure Tryz.prog 9 tabs 7 [L q n 1 0, .string t] (.bool true) :=
  pureT tR_ok (n := 4000) (v := .bool true) [(4, .br false), (4, .br false), (1, .ov (err 12)), (7, .ov (.tuple #[cfg a' b' c' d' s', .int .i64 0])), (29, .ov (.tuple #[.string T, .int .i64 0])), (12, .br true)]
    [decide ((n : Int) > 300) = false, decide ((t.size : Int) > 300) = false, ∀ σ, (envT tR).ov 25 [L q n 1 0] 0 σ = some (err 12, σ), ∀ σ, (envT tR).ov 18 [.string t] 0 σ = some (.tuple #[cfg a' b' c' d' s', .int .i64 0], σ), ∀ σ, (envT tR).ov 16 [cfg a' b' c' d' s'] 0 σ = some (.tuple #[.string T, .int .i64 0], σ), (T.toList == t.toList) = true] (by kernel_rfl) ⟨h0, h1, h2, h3, h4, h5⟩ rfl (.bool _)
theorem rd_12_no (t : ByteArray) (q : List Value) (n : Nat) (h0 : decide ((n : Int) > 300) = false) (h1 : decide ((t.size : Int) > 300) = false) (h2 : ∀ σ, (envT tR).ov 25 [L q n 1 0] 0 σ = some (err 12, σ)) (h3 : ∀ σ, (envT tR).ov 18 [.string t] 0 σ = some (e8, σ)) :
    Pure Tryz.prog 9 tabs 7 [L q n 1 0, .string t] (.bool true) :=
  pureT tR_ok (n := 4000) (v := .bool true) [(4, .br false), (4, .br false), (1, .ov (err 12)), (7, .ov e8)]
    [decide ((n : Int) > 300) = false, decide ((t.size : Int) > 300) = false, ∀ σ, (envT tR).ov 25 [L q n 1 0] 0 σ = some (err 12, σ), ∀ σ, (envT tR).ov 18 [.string t] 0 σ = some (e8, σ)] (by kernel_rfl) ⟨h0, h1, h2, h3⟩ rfl (.bool _)
theorem rd_nil_big (t : ByteArray) (h0 : decide ((t.size : Int) > 300) = true) :
    Pure Tryz.prog 9 tabs 7 [.slice none 0 0, .string t] (.bool true) :=
  pureT tRv_ok (n := 4000) (v := .bool true) [(9, .br true)]
    [decide ((t.size : Int) > 300) = true] (by kernel_rfl) h0 rfl (.bool _)
theorem rd_nil_ok (a' b' c' d' s' : Int) (t T : ByteArray) (h0 : decide ((t.size : Int) > 300) = false) (h1 : ∀ σ, (envT tRv).ov 18 [.string t] 0 σ = some (.tuple #[cfg a' b' c' d' s', .int .i64 0], σ)) (h2 : ∀ σ, (envT tRv).ov 16 [cfg a' b' c' d' s'] 0 σ = some (.tuple #[.string T, .int .i64 0], σ)) (h3 : (T.toList == t.toList) = true) :
    Pure Tryz.prog 9 tabs 7 [.slice none 0 0, .string t] (.bool true) :=
  pureT tRv_ok (n := 4000) (v := .bool true) [(9, .br false), (18, .ov (.tuple #[cfg a' b' c' d' s', .int .i64 0])), (25, .ov (.tuple #[.string T, .int .i64 0])), (12, .br true)]
    [decide ((t.size : Int) > 300) = false, ∀ σ, (envT tRv).ov 18 [.string t] 0 σ = some (.tuple #[cfg a' b' c' d' s', .int .i64 0], σ), ∀ σ, (envT tRv).ov 16 [cfg a' b' c' d' s'] 0 σ = some (.tuple #[.string T, .int .i64 0], σ), (T.toList == t.toList) = true] (by kernel_rfl) ⟨h0, h1, h2, h3⟩ rfl (.bool _)
theorem rd_nil_no (t : ByteArray) (h0 : decide ((t.size : Int) > 300) = false) (h1 : ∀ σ, (envT tRv).ov 18 [.string t] 0 σ = some (e8, σ)) :
    Pure Tryz.prog 9 tabs 7 [.slice none 0 0, .string t] (.bool true) :=
  pureT tRv_ok (n := 4000) (v := .bool true) [(9, .br false), (18, .ov e8)]
    [decide ((t.size : Int) > 300) = false, ∀ σ, (envT tRv).ov 18 [.string t] 0 σ = some (e8, σ)] (by kernel_rfl) ⟨h0, h1⟩ rfl (.bool _)
theorem rd_void_big (t : ByteArray) (h0 : decide ((t.size : Int) > 300) = true) :
    Pure Tryz.prog 9 tabs 7 [.slice (some void) 0 0, .string t] (.bool true) :=
  pureT tRv_ok (n := 4000) (v := .bool true) [(9, .br true)]
    [decide ((t.size : Int) > 300) = true] (by kernel_rfl) h0 rfl (.bool _)
theorem rd_void_ok (a' b' c' d' s' : Int) (t T : ByteArray) (h0 : decide ((t.size : Int) > 300) = false) (h1 : ∀ σ, (envT tRv).ov 18 [.string t] 0 σ = some (.tuple #[cfg a' b' c' d' s', .int .i64 0], σ)) (h2 : ∀ σ, (envT tRv).ov 16 [cfg a' b' c' d' s'] 0 σ = some (.tuple #[.string T, .int .i64 0], σ)) (h3 : (T.toList == t.toList) = true) :
    Pure Tryz.prog 9 tabs 7 [.slice (some void) 0 0, .string t] (.bool true) :=
  pureT tRv_ok (n := 4000) (v := .bool true) [(9, .br false), (18, .ov (.tuple #[cfg a' b' c' d' s', .int .i64 0])), (25, .ov (.tuple #[.string T, .int .i64 0])), (12, .br true)]
    [decide ((t.size : Int) > 300) = false, ∀ σ, (envT tRv).ov 18 [.string t] 0 σ = some (.tuple #[cfg a' b' c' d' s', .int .i64 0], σ), ∀ σ, (envT tRv).ov 16 [cfg a' b' c' d' s'] 0 σ = some (.tuple #[.string T, .int .i64 0], σ), (T.toList == t.toList) = true] (by kernel_rfl) ⟨h0, h1, h2, h3⟩ rfl (.bool _)
theorem rd_void_no (t : ByteArray) (h0 : decide ((t.size : Int) > 300) = false) (h1 : ∀ σ, (envT tRv).ov 18 [.string t] 0 σ = some (e8, σ)) :
    Pure Tryz.prog 9 tabs 7 [.slice (some void) 0 0, .string t] (.bool true) :=
  pureT tRv_ok (n := 4000) (v := .bool true) [(9, .br false), (18, .ov e8)]
    [decide ((t.size : Int) > 300) = false, ∀ σ, (envT tRv).ov 18 [.string t] 0 σ = some (e8, σ)] (by kernel_rfl) ⟨h0, h1⟩ rfl (.bool _)

end Go.Proofs.YtcjjlajpbakaoaaGreatDoor

/-
  SUPERBLOCK (chapter 36): SuperReads: the law.
-/
namespace Go.Proofs.YtcjjlajpbakaoaaGreatDoor
open Go.Va

theorem ovR_25 (l : List UInt8) (hl : l.length < 1000000) (lim : Nat) (σ : AS) : (envT tR).ov 25 [L (bys l) l.length 1 0] lim σ = some (decO l, σ) := by
  refine envK rfl rfl (show [strip (L (bys l) l.length 1 0)] = [L (bys l) l.length 1 0] by rw [strip_le (by omega)]) (flat_args1 (by omega)) ?_
  unfold tR
  rw [pfT_eq]
  unfold k25
  dsimp only
  rw [asB_L (by omega) (by omega)]
  dsimp only
  rw [show Nat.blt l.length 1000000 = true from blt_iff.2 hl]
  rfl
theorem ovR_18 (s : ByteArray) (hs : s.size < 100000) (lim : Nat) (σ : AS) : (envT tR).ov 18 [.string s] lim σ = some (parV s, σ) := by
  refine envK rfl rfl (show _ = [Value.string s] from rfl) rfl ?_
  unfold tR
  rw [pfT_ne rfl, pfT_eq]
  unfold k18
  dsimp only
  rw [blt_iff.2 hs]
  rfl
theorem ovR_16 (a b c d s : Int) (s0 : 0 ≤ s) (s1 : s < 18446744073709551616) (lim : Nat) (σ : AS) : (envT tR).ov 16 [cfg a b c d s] lim σ = some (txtV a b c d s, σ) := by
  refine envK rfl rfl (show _ = [cfg a b c d s] from rfl) rfl ?_
  unfold tR
  rw [pfT_ne rfl, pfT_ne rfl, pfT_eq]
  unfold k16 cfg
  dsimp only
  rw [decide_eq_true s0, decide_eq_true s1]
  rfl
theorem ovR_22 (e a b c d s : Int) (s0 : 0 ≤ s) (s1 : s < 18446744073709551616) (lim : Nat) (σ : AS) : (envT tR).ov 22 [sup e a b c d s] lim σ = some (encV e a b c d s, σ) := by
  refine envK rfl rfl (show _ = [sup e a b c d s] from rfl) rfl ?_
  unfold tR t13
  rw [pfT_ne rfl, pfT_ne rfl, pfT_ne rfl, pfT_eq]
  show (bif decide (0 ≤ s) && decide (s < 18446744073709551616) then some (encV e a b c d s) else none) = _
  rw [decide_eq_true s0, decide_eq_true s1]
  rfl
theorem ovRv_18 (s : ByteArray) (hs : s.size < 100000) (lim : Nat) (σ : AS) : (envT tRv).ov 18 [.string s] lim σ = some (parV s, σ) := by
  refine envK rfl rfl (show _ = [Value.string s] from rfl) rfl ?_
  unfold tRv
  rw [pfT_eq]
  unfold k18
  dsimp only
  rw [blt_iff.2 hs]
  rfl
theorem ovRv_16 (a b c d s : Int) (s0 : 0 ≤ s) (s1 : s < 18446744073709551616) (lim : Nat) (σ : AS) : (envT tRv).ov 16 [cfg a b c d s] lim σ = some (txtV a b c d s, σ) := by
  refine envK rfl rfl (show _ = [cfg a b c d s] from rfl) rfl ?_
  unfold tRv
  rw [pfT_ne rfl, pfT_eq]
  unfold k16 cfg
  dsimp only
  rw [decide_eq_true s0, decide_eq_true s1]
  rfl
theorem txtV_ok {a b c d s : Nat} (h : chk a b c d s = true) : txtV a b c d s = .tuple #[.string (textS a b c d s), .int .i64 0] := by
  unfold txtV
  rw [h]
  simp only [Int.toNat_natCast, cond_true]
theorem encV_nat (e a b c d s : Nat) (h1 : 1 ≤ e) (h2 : e ≤ 1099511627776) (hc : chk a b c d s = true) : encV e a b c d s = .tuple #[L (bys (encL e a b c d s)) 128 1 1, .int .i64 0] := by
  have hv : vld e a b c d s = true := by unfold vld; rw [decide_eq_true (show (e : Int) ≥ 1 by omega), decide_eq_true (show (e : Int) ≤ 1099511627776 by omega), hc]; rfl
  unfold encV
  rw [hv]
  simp only [Int.toNat_natCast, cond_true]
theorem law7_l (l : List UInt8) (t : ByteArray) : Pure Tryz.prog 9 tabs 7 [L (bys l) l.length 1 0, .string t] (.bool true) := by
  by_cases hb : (l.length : Int) > 300
  · exact rd_big t (bys l) l.length (decide_eq_true hb)
  have c1 : decide ((l.length : Int) > 300) = false := decide_eq_false hb
  by_cases ht : (t.size : Int) > 300
  · exact rd_bigt t (bys l) l.length c1 (decide_eq_true ht)
  have c2 : decide ((t.size : Int) > 300) = false := decide_eq_false ht
  have d := ovR_25 l (by omega) 0
  have p := ovR_18 t (by omega) 0
  rcases dec_spec l with ⟨e, a, b, c, f, s, h, hl, h1, h2, hc, hs, hE⟩ | h | h | h <;> rw [h] at d <;> rcases par_spec t with h' | ⟨a', b', c', f', s', h', hc', hs', hT⟩ <;> rw [h'] at p
  · have q := ovR_22 e a b c f s (by omega) (by omega) 0
    rw [encV_nat e a b c f s h1 h2 hc] at q
    refine rd_ok_no e a b c f s _ _ t (bys l) _ l.length c1 c2 d p q (decide_eq_false (by omega)) (by rw [hc]; rfl) (strB _) ⟨by omega, by omega⟩ (by rw [show (bys l).take ((128 : Int).toNat * 1) = bys (l.take 128) from bys_take l 128]; exact strB _) ?_
    rw [sB_eq, hE, beq_self_eq_true]; rfl
  · have q := ovR_22 e a b c f s (by omega) (by omega) 0
    rw [encV_nat e a b c f s h1 h2 hc] at q
    have x := ovR_16 a' b' c' f' s' (by omega) (by omega) 0
    rw [txtV_ok hc'] at x
    refine rd_ok_ok e a b c f s a' b' c' f' s' _ _ t _ (bys l) _ l.length c1 c2 d p q (decide_eq_false (by omega)) (by rw [hc]; rfl) (strB _) ⟨by omega, by omega⟩ (by rw [show (bys l).take ((128 : Int).toNat * 1) = bys (l.take 128) from bys_take l 128]; exact strB _) ?_ x (by rw [hT, beq_self_eq_true])
    rw [sB_eq, hE, beq_self_eq_true]; rfl
  · exact rd_13_no t (bys l) l.length c1 c2 d p
  · have x := ovR_16 a' b' c' f' s' (by omega) (by omega) 0
    rw [txtV_ok hc'] at x
    exact rd_13_ok a' b' c' f' s' t _ (bys l) l.length c1 c2 d p x (by rw [hT, beq_self_eq_true])
  · exact rd_8_no t (bys l) l.length c1 c2 d p
  · have x := ovR_16 a' b' c' f' s' (by omega) (by omega) 0
    rw [txtV_ok hc'] at x
    exact rd_8_ok a' b' c' f' s' t _ (bys l) l.length c1 c2 d p x (by rw [hT, beq_self_eq_true])
  · exact rd_12_no t (bys l) l.length c1 c2 d p
  · have x := ovR_16 a' b' c' f' s' (by omega) (by omega) 0
    rw [txtV_ok hc'] at x
    exact rd_12_ok a' b' c' f' s' t _ (bys l) l.length c1 c2 d p x (by rw [hT, beq_self_eq_true])
theorem law7_n (t : ByteArray) : Pure Tryz.prog 9 tabs 7 [.slice none 0 0, .string t] (.bool true) := by
  by_cases ht : (t.size : Int) > 300
  · exact rd_nil_big t (decide_eq_true ht)
  have c2 : decide ((t.size : Int) > 300) = false := decide_eq_false ht
  have p := ovRv_18 t (by omega) 0
  rcases par_spec t with h' | ⟨a', b', c', f', s', h', hc', hs', hT⟩ <;> rw [h'] at p
  · exact rd_nil_no t c2 p
  · have x := ovRv_16 a' b' c' f' s' (by omega) (by omega) 0
    rw [txtV_ok hc'] at x
    exact rd_nil_ok a' b' c' f' s' t _ c2 p x (by rw [hT, beq_self_eq_true])
theorem law7_v (t : ByteArray) : Pure Tryz.prog 9 tabs 7 [.slice (some void) 0 0, .string t] (.bool true) := by
  by_cases ht : (t.size : Int) > 300
  · exact rd_void_big t (decide_eq_true ht)
  have c2 : decide ((t.size : Int) > 300) = false := decide_eq_false ht
  have p := ovRv_18 t (by omega) 0
  rcases par_spec t with h' | ⟨a', b', c', f', s', h', hc', hs', hT⟩ <;> rw [h'] at p
  · exact rd_void_no t c2 p
  · have x := ovRv_16 a' b' c' f' s' (by omega) (by omega) 0
    rw [txtV_ok hc'] at x
    exact rd_void_ok a' b' c' f' s' t _ c2 p x (by rw [hT, beq_self_eq_true])
theorem law7_l' (l : List UInt8) (t : ByteArray) (_ : l.length ≠ 0) : Pure Tryz.prog 9 tabs 7 [L (bys l) l.length 1 0, .string t] (.bool true) := law7_l l t
theorem law7_n' (t : ByteArray) : Pure Tryz.prog 9 tabs 7 [.slice none 0 0, .string t] (.bool true) := law7_n t
theorem law7_v' (t : ByteArray) : Pure Tryz.prog 9 tabs 7 [.slice (some void) 0 0, .string t] (.bool true) := law7_v t

end Go.Proofs.YtcjjlajpbakaoaaGreatDoor
