/-
  SUPERBLOCK (chapter 36): SuperReads.
-/
import Derived.Test.YtcjjlajpbakaoaaGreatDoorD36bn
import Derived.Test.YtcjjlajpbakaoaaGreatDoorD36bs
namespace Go.Proofs.YtcjjlajpbakaoaaGreatDoor
open Go.Va

theorem rd_big (t : ByteArray) (q : List Value) (n : Nat) (h0 : decide ((n : Int) > 300) = true) :
    Pure Tryz.prog 9 tabs 7 [L q n 1 0, .string t] (.bool true) :=
  pureT tR_ok (n := 4000) (v := .bool true) [(4, .br true)]
    [decide ((n : Int) > 300) = true] (by kernel_rfl) h0 rfl (.bool _)
theorem rd_bigt (t : ByteArray) (q : List Value) (n : Nat) (h0 : decide ((n : Int) > 300) = false) (h1 : decide ((t.size : Int) > 300) = true) :
    Pure Tryz.prog 9 tabs 7 [L q n 1 0, .string t] (.bool true) :=
  pureT tR_ok (n := 4000) (v := .bool true) [(4, .br false), (4, .br true)]
    [decide ((n : Int) > 300) = false, decide ((t.size : Int) > 300) = true] (by kernel_rfl) ⟨h0, h1⟩ rfl (.bool _)
theorem rd_ok_ok (e a b c d s a' b' c' d' s' : Int) (sb so t T : ByteArray) (q q7 : List Value) (n : Nat) (h0 : decide ((n : Int) > 300) = false) (h1 : decide ((t.size : Int) > 300) = false) (h2 : ∀ σ, (envT tR).ov 25 [L q n 1 0] 0 σ = some (.tuple #[sup e a b c d s, .int .i64 0], σ)) (h3 : ∀ σ, (envT tR).ov 18 [.string t] 0 σ = some (.tuple #[cfg a' b' c' d' s', .int .i64 0], σ)) (h4 : ∀ σ, (envT tR).ov 22 [sup e a b c d s] 0 σ = some (.tuple #[L q7 128 1 1, .int .i64 0], σ)) (h5 : decide ((n : Int) < 128) = false) (h6 : ((bif chk a b c d s then (0 : Int) else 2) != 0) = false) (h7 : strL Tryz.prog 37 9 q7 1 = some (.string so)) (h8 : (0 : Int) ≤ 128 ∧ (128 : Int) ≤ n) (h9 : strL Tryz.prog 37 9 (q.take ((128 : Int).toNat * 1)) 1 = some (.string sb)) (h10 : (!(so.toList == sb.toList)) = false) (h11 : ∀ σ, (envT tR).ov 16 [cfg a' b' c' d' s'] 0 σ = some (.tuple #[.string T, .int .i64 0], σ)) (h12 : (T.toList == t.toList) = true) :
    Pure Tryz.prog 9 tabs 7 [L q n 1 0, .string t] (.bool true) :=
  pureT tR_ok (n := 4000) (v := .bool true) [(4, .br false), (4, .br false), (1, .ov (.tuple #[sup e a b c d s, .int .i64 0])), (7, .ov (.tuple #[cfg a' b' c' d' s', .int .i64 0])), (10, .ov (.tuple #[L q7 128 1 1, .int .i64 0])), (8, .br false), (5, .br false), (5, .is (.string so)), (1, .ok), (0, .is (.string sb)), (2, .br false), (4, .ov (.tuple #[.string T, .int .i64 0])), (12, .br true)]
    [decide ((n : Int) > 300) = false, decide ((t.size : Int) > 300) = false, ∀ σ, (envT tR).ov 25 [L q n 1 0] 0 σ = some (.tuple #[sup e a b c d s, .int .i64 0], σ), ∀ σ, (envT tR).ov 18 [.string t] 0 σ = some (.tuple #[cfg a' b' c' d' s', .int .i64 0], σ), ∀ σ, (envT tR).ov 22 [sup e a b c d s] 0 σ = some (.tuple #[L q7 128 1 1, .int .i64 0], σ), decide ((n : Int) < 128) = false, ((bif chk a b c d s then (0 : Int) else 2) != 0) = false, strL Tryz.prog 37 9 q7 1 = some (.string so), (0 : Int) ≤ 128 ∧ (128 : Int) ≤ n, strL Tryz.prog 37 9 (q.take ((128 : Int).toNat * 1)) 1 = some (.string sb), (!(so.toList == sb.toList)) = false, ∀ σ, (envT tR).ov 16 [cfg a' b' c' d' s'] 0 σ = some (.tuple #[.string T, .int .i64 0], σ), (T.toList == t.toList) = true] (by kernel_rfl) ⟨h0, h1, h2, h3, h4, h5, h6, h7, h8, h9, h10, h11, h12⟩ rfl (.bool _)
theorem rd_ok_no (e a b c d s : Int) (sb so t : ByteArray) (q q7 : List Value) (n : Nat) (h0 : decide ((n : Int) > 300) = false) (h1 : decide ((t.size : Int) > 300) = false) (h2 : ∀ σ, (envT tR).ov 25 [L q n 1 0] 0 σ = some (.tuple #[sup e a b c d s, .int .i64 0], σ)) (h3 : ∀ σ, (envT tR).ov 18 [.string t] 0 σ = some (e8, σ)) (h4 : ∀ σ, (envT tR).ov 22 [sup e a b c d s] 0 σ = some (.tuple #[L q7 128 1 1, .int .i64 0], σ)) (h5 : decide ((n : Int) < 128) = false) (h6 : ((bif chk a b c d s then (0 : Int) else 2) != 0) = false) (h7 : strL Tryz.prog 37 9 q7 1 = some (.string so)) (h8 : (0 : Int) ≤ 128 ∧ (128 : Int) ≤ n) (h9 : strL Tryz.prog 37 9 (q.take ((128 : Int).toNat * 1)) 1 = some (.string sb)) (h10 : (!(so.toList == sb.toList)) = false) :
    Pure Tryz.prog 9 tabs 7 [L q n 1 0, .string t] (.bool true) :=
  pureT tR_ok (n := 4000) (v := .bool true) [(4, .br false), (4, .br false), (1, .ov (.tuple #[sup e a b c d s, .int .i64 0])), (7, .ov e8), (10, .ov (.tuple #[L q7 128 1 1, .int .i64 0])), (8, .br false), (5, .br false), (5, .is (.string so)), (1, .ok), (0, .is (.string sb)), (2, .br false)]
    [decide ((n : Int) > 300) = false, decide ((t.size : Int) > 300) = false, ∀ σ, (envT tR).ov 25 [L q n 1 0] 0 σ = some (.tuple #[sup e a b c d s, .int .i64 0], σ), ∀ σ, (envT tR).ov 18 [.string t] 0 σ = some (e8, σ), ∀ σ, (envT tR).ov 22 [sup e a b c d s] 0 σ = some (.tuple #[L q7 128 1 1, .int .i64 0], σ), decide ((n : Int) < 128) = false, ((bif chk a b c d s then (0 : Int) else 2) != 0) = false, strL Tryz.prog 37 9 q7 1 = some (.string so), (0 : Int) ≤ 128 ∧ (128 : Int) ≤ n, strL Tryz.prog 37 9 (q.take ((128 : Int).toNat * 1)) 1 = some (.string sb), (!(so.toList == sb.toList)) = false] (by kernel_rfl) ⟨h0, h1, h2, h3, h4, h5, h6, h7, h8, h9, h10⟩ rfl (.bool _)
theorem rd_13_ok (a' b' c' d' s' : Int) (t T : ByteArray) (q : List Value) (n : Nat) (h0 : decide ((n : Int) > 300) = false) (h1 : decide ((t.size : Int) > 300) = false) (h2 : ∀ σ, (envT tR).ov 25 [L q n 1 0] 0 σ = some (err 13, σ)) (h3 : ∀ σ, (envT tR).ov 18 [.string t] 0 σ = some (.tuple #[cfg a' b' c' d' s', .int .i64 0], σ)) (h4 : ∀ σ, (envT tR).ov 16 [cfg a' b' c' d' s'] 0 σ = some (.tuple #[.string T, .int .i64 0], σ)) (h5 : (T.toList == t.toList) = true) :
    Pure Tryz.prog 9 tabs 7 [L q n 1 0, .string t] (.bool true) :=
  pureT tR_ok (n := 4000) (v := .bool true) [(4, .br false), (4, .br false), (1, .ov (err 13)), (7, .ov (.tuple #[cfg a' b' c' d' s', .int .i64 0])), (25, .ov (.tuple #[.string T, .int .i64 0])), (12, .br true)]
    [decide ((n : Int) > 300) = false, decide ((t.size : Int) > 300) = false, ∀ σ, (envT tR).ov 25 [L q n 1 0] 0 σ = some (err 13, σ), ∀ σ, (envT tR).ov 18 [.string t] 0 σ = some (.tuple #[cfg a' b' c' d' s', .int .i64 0], σ), ∀ σ, (envT tR).ov 16 [cfg a' b' c' d' s'] 0 σ = some (.tuple #[.string T, .int .i64 0], σ), (T.toList == t.toList) = true] (by kernel_rfl) ⟨h0, h1, h2, h3, h4, h5⟩ rfl (.bool _)
theorem rd_13_no (t : ByteArray) (q : List Value) (n : Nat) (h0 : decide ((n : Int) > 300) = false) (h1 : decide ((t.size : Int) > 300) = false) (h2 : ∀ σ, (envT tR).ov 25 [L q n 1 0] 0 σ = some (err 13, σ)) (h3 : ∀ σ, (envT tR).ov 18 [.string t] 0 σ = some (e8, σ)) :
    Pure Tryz.prog 9 tabs 7 [L q n 1 0, .string t] (.bool true) :=
  pureT tR_ok (n := 4000) (v := .bool true) [(4, .br false), (4, .br false), (1, .ov (err 13)), (7, .ov e8)]
    [decide ((n : Int) > 300) = false, decide ((t.size : Int) > 300) = false, ∀ σ, (envT tR).ov 25 [L q n 1 0] 0 σ = some (err 13, σ), ∀ σ, (envT tR).ov 18 [.string t] 0 σ = some (e8, σ)] (by kernel_rfl) ⟨h0, h1, h2, h3⟩ rfl (.bool _)
theorem rd_8_ok (a' b' c' d' s' : Int) (t T : ByteArray) (q : List Value) (n : Nat) (h0 : decide ((n : Int) > 300) = false) (h1 : decide ((t.size : Int) > 300) = false) (h2 : ∀ σ, (envT tR).ov 25 [L q n 1 0] 0 σ = some (err 8, σ)) (h3 : ∀ σ, (envT tR).ov 18 [.string t] 0 σ = some (.tuple #[cfg a' b' c' d' s', .int .i64 0], σ)) (h4 : ∀ σ, (envT tR).ov 16 [cfg a' b' c' d' s'] 0 σ = some (.tuple #[.string T, .int .i64 0], σ)) (h5 : (T.toList == t.toList) = true) :
    Pure Tryz.prog 9 tabs 7 [L q n 1 0, .string t] (.bool true) :=
  pureT tR_ok (n := 4000) (v := .bool true) [(4, .br false), (4, .br false), (1, .ov (err 8)), (7, .ov (.tuple #[cfg a' b' c' d' s', .int .i64 0])), (27, .ov (.tuple #[.string T, .int .i64 0])), (12, .br true)]
    [decide ((n : Int) > 300) = false, decide ((t.size : Int) > 300) = false, ∀ σ, (envT tR).ov 25 [L q n 1 0] 0 σ = some (err 8, σ), ∀ σ, (envT tR).ov 18 [.string t] 0 σ = some (.tuple #[cfg a' b' c' d' s', .int .i64 0], σ), ∀ σ, (envT tR).ov 16 [cfg a' b' c' d' s'] 0 σ = some (.tuple #[.string T, .int .i64 0], σ), (T.toList == t.toList) = true] (by kernel_rfl) ⟨h0, h1, h2, h3, h4, h5⟩ rfl (.bool _)
theorem rd_8_no (t : ByteArray) (q : List Value) (n : Nat) (h0 : decide ((n : Int) > 300) = false) (h1 : decide ((t.size : Int) > 300) = false) (h2 : ∀ σ, (envT tR).ov 25 [L q n 1 0] 0 σ = some (err 8, σ)) (h3 : ∀ σ, (envT tR).ov 18 [.string t] 0 σ = some (e8, σ)) :
    Pure Tryz.prog 9 tabs 7 [L q n 1 0, .string t] (.bool true) :=
  pureT tR_ok (n := 4000) (v := .bool true) [(4, .br false), (4, .br false), (1, .ov (err 8)), (7, .ov e8)]
    [decide ((n : Int) > 300) = false, decide ((t.size : Int) > 300) = false, ∀ σ, (envT tR).ov 25 [L q n 1 0] 0 σ = some (err 8, σ), ∀ σ, (envT tR).ov 18 [.string t] 0 σ = some (e8, σ)] (by kernel_rfl) ⟨h0, h1, h2, h3⟩ rfl (.bool _)
theorem rd_12_ok (a' b' c' d' s' : Int) (t T : ByteArray) (q : List Value) (n : Nat) (h0 : decide ((n : Int) > 300) = false) (h1 : decide ((t.size : Int) > 300) = false) (h2 : ∀ σ, (envT tR).ov 25 [L q n 1 0] 0 σ = some (err 12, σ)) (h3 : ∀ σ, (envT tR).ov 18 [.string t] 0 σ = some (.tuple #[cfg a' b' c' d' s', .int .i64 0], σ)) (h4 : ∀ σ, (envT tR).ov 16 [cfg a' b' c' d' s'] 0 σ = some (.tuple #[.string T, .int .i64 0], σ)) (h5 : (T.toList == t.toList) = true) :
    Pure Tryz.prog 9 tabs 7 [L q n 1 0, .string t] (.bool true) :=
  pureT tR_ok (n := 4000) (v := .bool true) [(4, .br false), (4, .br false), (1, .ov (err 12)), (7, .ov (.tuple #[cfg a' b' c' d' s', .int .i64 0])), (29, .ov (.tuple #[.string T, .int .i64 0])), (12, .br true)]
    [decide ((n : Int) > 300) = false, decide ((t.size : Int) > 300) = false, ∀ σ, (envT tR).ov 25 [L q n 1 0] 0 σ = some (err 12, σ), ∀ σ, (envT tR).ov 18 [.string t] 0 σ = some (.tuple #[cfg a' b' c' d' s', .int .i64 0], σ), ∀ σ, (envT tR).ov 16 [cfg a' b' c' d' s'] 0 σ = some (.tuple #[.string T, .int .i64 0], σ), (T.toList == t.toList) = true] (by kernel_rfl) ⟨h0, h1, h2, h3, h4, h5⟩ rfl (.bool _)
theorem rd_12_no (t : ByteArray) (q : List Value) (n : Nat) (h0 : decide ((n : Int) > 300) = false) (h1 : decide ((t.size : Int) > 300) = false) (h2 : ∀ σ, (envT tR).ov 25 [L q n 1 0] 0 σ = some (err 12, σ)) (h3 : ∀ σ, (envT tR).ov 18 [.string t] 0 σ = some (e8, σ)) :
    Pure Tryz.prog 9 tabs 7 [L q n 1 0, .string t] (.bool true) :=
  pureT tR_ok (n := 4000) (v := .bool true) [(4, .br false), (4, .br false), (1, .ov (err 12)), (7, .ov e8)]
    [decide ((n : Int) > 300) = false, decide ((t.size : Int) > 300) = false, ∀ σ, (envT tR).ov 25 [L q n 1 0] 0 σ = some (err 12, σ), ∀ σ, (envT tR).ov 18 [.string t] 0 σ = some (e8, σ)] (by kernel_rfl) ⟨h0, h1, h2, h3⟩ rfl (.bool _)
theorem rd_nil_big (t : ByteArray) (h0 : decide ((t.size : Int) > 300) = true) :
    Pure Tryz.prog 9 tabs 7 [.slice none 0 0, .string t] (.bool true) :=
  pureT tRv_ok (n := 4000) (v := .bool true) [(9, .br true)]
    [decide ((t.size : Int) > 300) = true] (by kernel_rfl) h0 rfl (.bool _)
theorem rd_nil_ok (a' b' c' d' s' : Int) (t T : ByteArray) (h0 : decide ((t.size : Int) > 300) = false) (h1 : ∀ σ, (envT tRv).ov 18 [.string t] 0 σ = some (.tuple #[cfg a' b' c' d' s', .int .i64 0], σ)) (h2 : ∀ σ, (envT tRv).ov 16 [cfg a' b' c' d' s'] 0 σ = some (.tuple #[.string T, .int .i64 0], σ)) (h3 : (T.toList == t.toList) = true) :
    Pure Tryz.prog 9 tabs 7 [.slice none 0 0, .string t] (.bool true) :=
  pureT tRv_ok (n := 4000) (v := .bool true) [(9, .br false), (18, .ov (.tuple #[cfg a' b' c' d' s', .int .i64 0])), (25, .ov (.tuple #[.string T, .int .i64 0])), (12, .br true)]
    [decide ((t.size : Int) > 300) = false, ∀ σ, (envT tRv).ov 18 [.string t] 0 σ = some (.tuple #[cfg a' b' c' d' s', .int .i64 0], σ), ∀ σ, (envT tRv).ov 16 [cfg a' b' c' d' s'] 0 σ = some (.tuple #[.string T, .int .i64 0], σ), (T.toList == t.toList) = true] (by kernel_rfl) ⟨h0, h1, h2, h3⟩ rfl (.bool _)
theorem rd_nil_no (t : ByteArray) (h0 : decide ((t.size : Int) > 300) = false) (h1 : ∀ σ, (envT tRv).ov 18 [.string t] 0 σ = some (e8, σ)) :
    Pure Tryz.prog 9 tabs 7 [.slice none 0 0, .string t] (.bool true) :=
  pureT tRv_ok (n := 4000) (v := .bool true) [(9, .br false), (18, .ov e8)]
    [decide ((t.size : Int) > 300) = false, ∀ σ, (envT tRv).ov 18 [.string t] 0 σ = some (e8, σ)] (by kernel_rfl) ⟨h0, h1⟩ rfl (.bool _)
theorem rd_void_big (t : ByteArray) (h0 : decide ((t.size : Int) > 300) = true) :
    Pure Tryz.prog 9 tabs 7 [.slice (some void) 0 0, .string t] (.bool true) :=
  pureT tRv_ok (n := 4000) (v := .bool true) [(9, .br true)]
    [decide ((t.size : Int) > 300) = true] (by kernel_rfl) h0 rfl (.bool _)
theorem rd_void_ok (a' b' c' d' s' : Int) (t T : ByteArray) (h0 : decide ((t.size : Int) > 300) = false) (h1 : ∀ σ, (envT tRv).ov 18 [.string t] 0 σ = some (.tuple #[cfg a' b' c' d' s', .int .i64 0], σ)) (h2 : ∀ σ, (envT tRv).ov 16 [cfg a' b' c' d' s'] 0 σ = some (.tuple #[.string T, .int .i64 0], σ)) (h3 : (T.toList == t.toList) = true) :
    Pure Tryz.prog 9 tabs 7 [.slice (some void) 0 0, .string t] (.bool true) :=
  pureT tRv_ok (n := 4000) (v := .bool true) [(9, .br false), (18, .ov (.tuple #[cfg a' b' c' d' s', .int .i64 0])), (25, .ov (.tuple #[.string T, .int .i64 0])), (12, .br true)]
    [decide ((t.size : Int) > 300) = false, ∀ σ, (envT tRv).ov 18 [.string t] 0 σ = some (.tuple #[cfg a' b' c' d' s', .int .i64 0], σ), ∀ σ, (envT tRv).ov 16 [cfg a' b' c' d' s'] 0 σ = some (.tuple #[.string T, .int .i64 0], σ), (T.toList == t.toList) = true] (by kernel_rfl) ⟨h0, h1, h2, h3⟩ rfl (.bool _)
theorem rd_void_no (t : ByteArray) (h0 : decide ((t.size : Int) > 300) = false) (h1 : ∀ σ, (envT tRv).ov 18 [.string t] 0 σ = some (e8, σ)) :
    Pure Tryz.prog 9 tabs 7 [.slice (some void) 0 0, .string t] (.bool true) :=
  pureT tRv_ok (n := 4000) (v := .bool true) [(9, .br false), (18, .ov e8)]
    [decide ((t.size : Int) > 300) = false, ∀ σ, (envT tRv).ov 18 [.string t] 0 σ = some (e8, σ)] (by kernel_rfl) ⟨h0, h1⟩ rfl (.bool _)

end Go.Proofs.YtcjjlajpbakaoaaGreatDoor
