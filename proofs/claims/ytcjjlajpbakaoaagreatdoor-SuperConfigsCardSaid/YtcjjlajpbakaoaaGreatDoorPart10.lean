/-
  The functions that the statement reaches: what they answer, part 10.
-/
import Derived.Test.YtcjjlajpbakaoaaGreatDoorPart9
import Derived.Test.YtcjjlajpbakaoaaGreatDoorD36bn
import Derived.Test.YtcjjlajpbakaoaaGreatDoorD36bq

/-
  SUPERBLOCK (chapter 36): the document's Parse.
-/
namespace Go.Proofs.YtcjjlajpbakaoaaGreatDoor
open Go.Va

def k51 : List Value → Option Value
  | [.string s] => bif Nat.blt s.size 1000000 then some (L (strs (splD s)) (splD s).length 1 0) else none
  | _ => none
theorem k51_ok : KOk Tryz.prog 9 tabs 51 k51 := by
  intro args v h
  unfold k51 at h
  split at h
  · rename_i s
    cases hb : Nat.blt s.size 1000000 with
    | false => rw [hb] at h; cases h
    | true =>
      rw [hb, cond_true] at h
      cases h
      exact p51 s (blt_iff.1 hb)
  · cases h
def tQ : Ktab := (51, k51) :: (52, k52) :: (53, k53) :: (17, k16) :: []
theorem tQ_ok : TOk Tryz.prog 9 tabs tQ := ⟨k51_ok, k52_ok, k53_ok, k17_ok, trivial⟩
theorem dpar_short (s : ByteArray) (c : List Value) (n : Nat) (h0 : ∀ σ, (envT tQ).ov 51 [.string s] 0 σ = some (L c n 1 0, σ)) (h1 : decide ((n : Int) < 4) = true) :
    Pure Tryz.prog 9 tabs 19 [.string s] (.tuple #[cfg 0 0 0 0 0, .int .i64 8]) :=
  pureT tQ_ok (n := 4000) (v := .tuple #[cfg 0 0 0 0 0, .int .i64 8]) [(3, .ov (L c n 1 0)), (4, .br true)]
    [_, _] (by kernel_rfl) ⟨h0, h1⟩ rfl (plain_PF 100 _ rfl)
theorem dpar_zero_bad (v0 v1 v2 : Int) (s x0 x1 x2 x3 : ByteArray) (c : List Value) (n : Nat) (h0 : ∀ σ, (envT tQ).ov 51 [.string s] 0 σ = some (L c n 1 0, σ)) (h1 : decide ((n : Int) < 4) = false) (h2 : (0 : Int) ≤ 0 ∧ (0 : Int) < n) (h3 : c[0]? = some (.string x0)) (h4 : ∀ σ, (envT tQ).ov 52 [.string x0] 10 σ = some (.int .i64 v0, σ)) (h5 : (0 : Int) ≤ 1 ∧ (1 : Int) < n) (h6 : c[1]? = some (.string x1)) (h7 : ∀ σ, (envT tQ).ov 52 [.string x1] 10 σ = some (.int .i64 v1, σ)) (h8 : (0 : Int) ≤ 2 ∧ (2 : Int) < n) (h9 : c[2]? = some (.string x2)) (h10 : ∀ σ, (envT tQ).ov 52 [.string x2] 10 σ = some (.int .i64 v2, σ)) (h11 : (0 : Int) ≤ 3 ∧ (3 : Int) < n) (h12 : c[3]? = some (.string x3)) (h13 : (x3.toList == wZero.toList) = true) (h14 : ∀ σ, (envT tQ).ov 17 [cfg v0 v1 v2 1 0] 0 σ = some (.tuple #[.string ⟨#[]⟩, .int .i64 2], σ)) :
    Pure Tryz.prog 9 tabs 19 [.string s] (.tuple #[cfg 0 0 0 0 0, .int .i64 8]) :=
  pureT tQ_ok (n := 4000) (v := .tuple #[cfg 0 0 0 0 0, .int .i64 8]) [(3, .ov (L c n 1 0)), (4, .br false), (1, .ok), (0, .is (.string x0)), (0, .ov (.int .i64 v0)), (1, .ok), (0, .is (.string x1)), (0, .ov (.int .i64 v1)), (1, .ok), (0, .is (.string x2)), (0, .ov (.int .i64 v2)), (4, .ok), (0, .is (.string x3)), (2, .br true), (3, .ov (.tuple #[.string ⟨#[]⟩, .int .i64 2]))]
    [_, _, _, _, _, _, _, _, _, _, _, _, _, _, _] (by kernel_rfl) ⟨h0, h1, h2, h3, h4, h5, h6, h7, h8, h9, h10, h11, h12, h13, h14⟩ rfl (plain_PF 100 _ rfl)
theorem dpar_zero_ne (v0 v1 v2 : Int) (s x0 x1 x2 x3 T : ByteArray) (c : List Value) (n : Nat) (h0 : ∀ σ, (envT tQ).ov 51 [.string s] 0 σ = some (L c n 1 0, σ)) (h1 : decide ((n : Int) < 4) = false) (h2 : (0 : Int) ≤ 0 ∧ (0 : Int) < n) (h3 : c[0]? = some (.string x0)) (h4 : ∀ σ, (envT tQ).ov 52 [.string x0] 10 σ = some (.int .i64 v0, σ)) (h5 : (0 : Int) ≤ 1 ∧ (1 : Int) < n) (h6 : c[1]? = some (.string x1)) (h7 : ∀ σ, (envT tQ).ov 52 [.string x1] 10 σ = some (.int .i64 v1, σ)) (h8 : (0 : Int) ≤ 2 ∧ (2 : Int) < n) (h9 : c[2]? = some (.string x2)) (h10 : ∀ σ, (envT tQ).ov 52 [.string x2] 10 σ = some (.int .i64 v2, σ)) (h11 : (0 : Int) ≤ 3 ∧ (3 : Int) < n) (h12 : c[3]? = some (.string x3)) (h13 : (x3.toList == wZero.toList) = true) (h14 : ∀ σ, (envT tQ).ov 17 [cfg v0 v1 v2 1 0] 0 σ = some (.tuple #[.string T, .int .i64 0], σ)) (h15 : (!(T.toList == s.toList)) = true) :
    Pure Tryz.prog 9 tabs 19 [.string s] (.tuple #[cfg 0 0 0 0 0, .int .i64 8]) :=
  pureT tQ_ok (n := 4000) (v := .tuple #[cfg 0 0 0 0 0, .int .i64 8]) [(3, .ov (L c n 1 0)), (4, .br false), (1, .ok), (0, .is (.string x0)), (0, .ov (.int .i64 v0)), (1, .ok), (0, .is (.string x1)), (0, .ov (.int .i64 v1)), (1, .ok), (0, .is (.string x2)), (0, .ov (.int .i64 v2)), (4, .ok), (0, .is (.string x3)), (2, .br true), (3, .ov (.tuple #[.string T, .int .i64 0])), (12, .br true)]
    [_, _, _, _, _, _, _, _, _, _, _, _, _, _, _, _] (by kernel_rfl) ⟨h0, h1, h2, h3, h4, h5, h6, h7, h8, h9, h10, h11, h12, h13, h14, h15⟩ rfl (plain_PF 100 _ rfl)
theorem dpar_zero_ok (v0 v1 v2 : Int) (s x0 x1 x2 x3 T : ByteArray) (c : List Value) (n : Nat) (h0 : ∀ σ, (envT tQ).ov 51 [.string s] 0 σ = some (L c n 1 0, σ)) (h1 : decide ((n : Int) < 4) = false) (h2 : (0 : Int) ≤ 0 ∧ (0 : Int) < n) (h3 : c[0]? = some (.string x0)) (h4 : ∀ σ, (envT tQ).ov 52 [.string x0] 10 σ = some (.int .i64 v0, σ)) (h5 : (0 : Int) ≤ 1 ∧ (1 : Int) < n) (h6 : c[1]? = some (.string x1)) (h7 : ∀ σ, (envT tQ).ov 52 [.string x1] 10 σ = some (.int .i64 v1, σ)) (h8 : (0 : Int) ≤ 2 ∧ (2 : Int) < n) (h9 : c[2]? = some (.string x2)) (h10 : ∀ σ, (envT tQ).ov 52 [.string x2] 10 σ = some (.int .i64 v2, σ)) (h11 : (0 : Int) ≤ 3 ∧ (3 : Int) < n) (h12 : c[3]? = some (.string x3)) (h13 : (x3.toList == wZero.toList) = true) (h14 : ∀ σ, (envT tQ).ov 17 [cfg v0 v1 v2 1 0] 0 σ = some (.tuple #[.string T, .int .i64 0], σ)) (h15 : (!(T.toList == s.toList)) = false) :
    Pure Tryz.prog 9 tabs 19 [.string s] (.tuple #[cfg v0 v1 v2 1 0, .int .i64 0]) :=
  pureT tQ_ok (n := 4000) (v := .tuple #[cfg v0 v1 v2 1 0, .int .i64 0]) [(3, .ov (L c n 1 0)), (4, .br false), (1, .ok), (0, .is (.string x0)), (0, .ov (.int .i64 v0)), (1, .ok), (0, .is (.string x1)), (0, .ov (.int .i64 v1)), (1, .ok), (0, .is (.string x2)), (0, .ov (.int .i64 v2)), (4, .ok), (0, .is (.string x3)), (2, .br true), (3, .ov (.tuple #[.string T, .int .i64 0])), (12, .br false)]
    [_, _, _, _, _, _, _, _, _, _, _, _, _, _, _, _] (by kernel_rfl) ⟨h0, h1, h2, h3, h4, h5, h6, h7, h8, h9, h10, h11, h12, h13, h14, h15⟩ rfl (plain_PF 100 _ rfl)
theorem dpar_none_bad (v0 v1 v2 : Int) (s x0 x1 x2 x3 : ByteArray) (c : List Value) (n : Nat) (h0 : ∀ σ, (envT tQ).ov 51 [.string s] 0 σ = some (L c n 1 0, σ)) (h1 : decide ((n : Int) < 4) = false) (h2 : (0 : Int) ≤ 0 ∧ (0 : Int) < n) (h3 : c[0]? = some (.string x0)) (h4 : ∀ σ, (envT tQ).ov 52 [.string x0] 10 σ = some (.int .i64 v0, σ)) (h5 : (0 : Int) ≤ 1 ∧ (1 : Int) < n) (h6 : c[1]? = some (.string x1)) (h7 : ∀ σ, (envT tQ).ov 52 [.string x1] 10 σ = some (.int .i64 v1, σ)) (h8 : (0 : Int) ≤ 2 ∧ (2 : Int) < n) (h9 : c[2]? = some (.string x2)) (h10 : ∀ σ, (envT tQ).ov 52 [.string x2] 10 σ = some (.int .i64 v2, σ)) (h11 : (0 : Int) ≤ 3 ∧ (3 : Int) < n) (h12 : c[3]? = some (.string x3)) (h13 : (x3.toList == wZero.toList) = false) (h14 : (x3.toList == wSeed.toList) = false) (h15 : ∀ σ, (envT tQ).ov 17 [cfg v0 v1 v2 0 0] 0 σ = some (.tuple #[.string ⟨#[]⟩, .int .i64 2], σ)) :
    Pure Tryz.prog 9 tabs 19 [.string s] (.tuple #[cfg 0 0 0 0 0, .int .i64 8]) :=
  pureT tQ_ok (n := 4000) (v := .tuple #[cfg 0 0 0 0 0, .int .i64 8]) [(3, .ov (L c n 1 0)), (4, .br false), (1, .ok), (0, .is (.string x0)), (0, .ov (.int .i64 v0)), (1, .ok), (0, .is (.string x1)), (0, .ov (.int .i64 v1)), (1, .ok), (0, .is (.string x2)), (0, .ov (.int .i64 v2)), (4, .ok), (0, .is (.string x3)), (2, .br false), (2, .br false), (1, .ov (.tuple #[.string ⟨#[]⟩, .int .i64 2]))]
    [_, _, _, _, _, _, _, _, _, _, _, _, _, _, _, _] (by kernel_rfl) ⟨h0, h1, h2, h3, h4, h5, h6, h7, h8, h9, h10, h11, h12, h13, h14, h15⟩ rfl (plain_PF 100 _ rfl)
theorem dpar_none_ne (v0 v1 v2 : Int) (s x0 x1 x2 x3 T : ByteArray) (c : List Value) (n : Nat) (h0 : ∀ σ, (envT tQ).ov 51 [.string s] 0 σ = some (L c n 1 0, σ)) (h1 : decide ((n : Int) < 4) = false) (h2 : (0 : Int) ≤ 0 ∧ (0 : Int) < n) (h3 : c[0]? = some (.string x0)) (h4 : ∀ σ, (envT tQ).ov 52 [.string x0] 10 σ = some (.int .i64 v0, σ)) (h5 : (0 : Int) ≤ 1 ∧ (1 : Int) < n) (h6 : c[1]? = some (.string x1)) (h7 : ∀ σ, (envT tQ).ov 52 [.string x1] 10 σ = some (.int .i64 v1, σ)) (h8 : (0 : Int) ≤ 2 ∧ (2 : Int) < n) (h9 : c[2]? = some (.string x2)) (h10 : ∀ σ, (envT tQ).ov 52 [.string x2] 10 σ = some (.int .i64 v2, σ)) (h11 : (0 : Int) ≤ 3 ∧ (3 : Int) < n) (h12 : c[3]? = some (.string x3)) (h13 : (x3.toList == wZero.toList) = false) (h14 : (x3.toList == wSeed.toList) = false) (h15 : ∀ σ, (envT tQ).ov 17 [cfg v0 v1 v2 0 0] 0 σ = some (.tuple #[.string T, .int .i64 0], σ)) (h16 : (!(T.toList == s.toList)) = true) :
    Pure Tryz.prog 9 tabs 19 [.string s] (.tuple #[cfg 0 0 0 0 0, .int .i64 8]) :=
  pureT tQ_ok (n := 4000) (v := .tuple #[cfg 0 0 0 0 0, .int .i64 8]) [(3, .ov (L c n 1 0)), (4, .br false), (1, .ok), (0, .is (.string x0)), (0, .ov (.int .i64 v0)), (1, .ok), (0, .is (.string x1)), (0, .ov (.int .i64 v1)), (1, .ok), (0, .is (.string x2)), (0, .ov (.int .i64 v2)), (4, .ok), (0, .is (.string x3)), (2, .br false), (2, .br false), (1, .ov (.tuple #[.string T, .int .i64 0])), (12, .br true)]
    [_, _, _, _, _, _, _, _, _, _, _, _, _, _, _, _, _] (by kernel_rfl) ⟨h0, h1, h2, h3, h4, h5, h6, h7, h8, h9, h10, h11, h12, h13, h14, h15, h16⟩ rfl (plain_PF 100 _ rfl)
theorem dpar_none_ok (v0 v1 v2 : Int) (s x0 x1 x2 x3 T : ByteArray) (c : List Value) (n : Nat) (h0 : ∀ σ, (envT tQ).ov 51 [.string s] 0 σ = some (L c n 1 0, σ)) (h1 : decide ((n : Int) < 4) = false) (h2 : (0 : Int) ≤ 0 ∧ (0 : Int) < n) (h3 : c[0]? = some (.string x0)) (h4 : ∀ σ, (envT tQ).ov 52 [.string x0] 10 σ = some (.int .i64 v0, σ)) (h5 : (0 : Int) ≤ 1 ∧ (1 : Int) < n) (h6 : c[1]? = some (.string x1)) (h7 : ∀ σ, (envT tQ).ov 52 [.string x1] 10 σ = some (.int .i64 v1, σ)) (h8 : (0 : Int) ≤ 2 ∧ (2 : Int) < n) (h9 : c[2]? = some (.string x2)) (h10 : ∀ σ, (envT tQ).ov 52 [.string x2] 10 σ = some (.int .i64 v2, σ)) (h11 : (0 : Int) ≤ 3 ∧ (3 : Int) < n) (h12 : c[3]? = some (.string x3)) (h13 : (x3.toList == wZero.toList) = false) (h14 : (x3.toList == wSeed.toList) = false) (h15 : ∀ σ, (envT tQ).ov 17 [cfg v0 v1 v2 0 0] 0 σ = some (.tuple #[.string T, .int .i64 0], σ)) (h16 : (!(T.toList == s.toList)) = false) :
    Pure Tryz.prog 9 tabs 19 [.string s] (.tuple #[cfg v0 v1 v2 0 0, .int .i64 0]) :=
  pureT tQ_ok (n := 4000) (v := .tuple #[cfg v0 v1 v2 0 0, .int .i64 0]) [(3, .ov (L c n 1 0)), (4, .br false), (1, .ok), (0, .is (.string x0)), (0, .ov (.int .i64 v0)), (1, .ok), (0, .is (.string x1)), (0, .ov (.int .i64 v1)), (1, .ok), (0, .is (.string x2)), (0, .ov (.int .i64 v2)), (4, .ok), (0, .is (.string x3)), (2, .br false), (2, .br false), (1, .ov (.tuple #[.string T, .int .i64 0])), (12, .br false)]
    [_, _, _, _, _, _, _, _, _, _, _, _, _, _, _, _, _] (by kernel_rfl) ⟨h0, h1, h2, h3, h4, h5, h6, h7, h8, h9, h10, h11, h12, h13, h14, h15, h16⟩ rfl (plain_PF 100 _ rfl)
theorem dpar_seed0_bad (v0 v1 v2 : Int) (s x0 x1 x2 x3 : ByteArray) (c : List Value) (n : Nat) (h0 : ∀ σ, (envT tQ).ov 51 [.string s] 0 σ = some (L c n 1 0, σ)) (h1 : decide ((n : Int) < 4) = false) (h2 : (0 : Int) ≤ 0 ∧ (0 : Int) < n) (h3 : c[0]? = some (.string x0)) (h4 : ∀ σ, (envT tQ).ov 52 [.string x0] 10 σ = some (.int .i64 v0, σ)) (h5 : (0 : Int) ≤ 1 ∧ (1 : Int) < n) (h6 : c[1]? = some (.string x1)) (h7 : ∀ σ, (envT tQ).ov 52 [.string x1] 10 σ = some (.int .i64 v1, σ)) (h8 : (0 : Int) ≤ 2 ∧ (2 : Int) < n) (h9 : c[2]? = some (.string x2)) (h10 : ∀ σ, (envT tQ).ov 52 [.string x2] 10 σ = some (.int .i64 v2, σ)) (h11 : (0 : Int) ≤ 3 ∧ (3 : Int) < n) (h12 : c[3]? = some (.string x3)) (h13 : (x3.toList == wZero.toList) = false) (h14 : (x3.toList == wSeed.toList) = true) (h15 : decide ((n : Int) > 4) = false) (h16 : ∀ σ, (envT tQ).ov 17 [cfg v0 v1 v2 2 0] 0 σ = some (.tuple #[.string ⟨#[]⟩, .int .i64 2], σ)) :
    Pure Tryz.prog 9 tabs 19 [.string s] (.tuple #[cfg 0 0 0 0 0, .int .i64 8]) :=
  pureT tQ_ok (n := 4000) (v := .tuple #[cfg 0 0 0 0 0, .int .i64 8]) [(3, .ov (L c n 1 0)), (4, .br false), (1, .ok), (0, .is (.string x0)), (0, .ov (.int .i64 v0)), (1, .ok), (0, .is (.string x1)), (0, .ov (.int .i64 v1)), (1, .ok), (0, .is (.string x2)), (0, .ov (.int .i64 v2)), (4, .ok), (0, .is (.string x3)), (2, .br false), (2, .br true), (5, .br false), (1, .ov (.tuple #[.string ⟨#[]⟩, .int .i64 2]))]
    [_, _, _, _, _, _, _, _, _, _, _, _, _, _, _, _, _] (by kernel_rfl) ⟨h0, h1, h2, h3, h4, h5, h6, h7, h8, h9, h10, h11, h12, h13, h14, h15, h16⟩ rfl (plain_PF 100 _ rfl)
theorem dpar_seed0_ne (v0 v1 v2 : Int) (s x0 x1 x2 x3 T : ByteArray) (c : List Value) (n : Nat) (h0 : ∀ σ, (envT tQ).ov 51 [.string s] 0 σ = some (L c n 1 0, σ)) (h1 : decide ((n : Int) < 4) = false) (h2 : (0 : Int) ≤ 0 ∧ (0 : Int) < n) (h3 : c[0]? = some (.string x0)) (h4 : ∀ σ, (envT tQ).ov 52 [.string x0] 10 σ = some (.int .i64 v0, σ)) (h5 : (0 : Int) ≤ 1 ∧ (1 : Int) < n) (h6 : c[1]? = some (.string x1)) (h7 : ∀ σ, (envT tQ).ov 52 [.string x1] 10 σ = some (.int .i64 v1, σ)) (h8 : (0 : Int) ≤ 2 ∧ (2 : Int) < n) (h9 : c[2]? = some (.string x2)) (h10 : ∀ σ, (envT tQ).ov 52 [.string x2] 10 σ = some (.int .i64 v2, σ)) (h11 : (0 : Int) ≤ 3 ∧ (3 : Int) < n) (h12 : c[3]? = some (.string x3)) (h13 : (x3.toList == wZero.toList) = false) (h14 : (x3.toList == wSeed.toList) = true) (h15 : decide ((n : Int) > 4) = false) (h16 : ∀ σ, (envT tQ).ov 17 [cfg v0 v1 v2 2 0] 0 σ = some (.tuple #[.string T, .int .i64 0], σ)) (h17 : (!(T.toList == s.toList)) = true) :
    Pure Tryz.prog 9 tabs 19 [.string s] (.tuple #[cfg 0 0 0 0 0, .int .i64 8]) :=
  pureT tQ_ok (n := 4000) (v := .tuple #[cfg 0 0 0 0 0, .int .i64 8]) [(3, .ov (L c n 1 0)), (4, .br false), (1, .ok), (0, .is (.string x0)), (0, .ov (.int .i64 v0)), (1, .ok), (0, .is (.string x1)), (0, .ov (.int .i64 v1)), (1, .ok), (0, .is (.string x2)), (0, .ov (.int .i64 v2)), (4, .ok), (0, .is (.string x3)), (2, .br false), (2, .br true), (5, .br false), (1, .ov (.tuple #[.string T, .int .i64 0])), (12, .br true)]
    [_, _, _, _, _, _, _, _, _, _, _, _, _, _, _, _, _, _] (by kernel_rfl) ⟨h0, h1, h2, h3, h4, h5, h6, h7, h8, h9, h10, h11, h12, h13, h14, h15, h16, h17⟩ rfl (plain_PF 100 _ rfl)
theorem dpar_seed0_ok (v0 v1 v2 : Int) (s x0 x1 x2 x3 T : ByteArray) (c : List Value) (n : Nat) (h0 : ∀ σ, (envT tQ).ov 51 [.string s] 0 σ = some (L c n 1 0, σ)) (h1 : decide ((n : Int) < 4) = false) (h2 : (0 : Int) ≤ 0 ∧ (0 : Int) < n) (h3 : c[0]? = some (.string x0)) (h4 : ∀ σ, (envT tQ).ov 52 [.string x0] 10 σ = some (.int .i64 v0, σ)) (h5 : (0 : Int) ≤ 1 ∧ (1 : Int) < n) (h6 : c[1]? = some (.string x1)) (h7 : ∀ σ, (envT tQ).ov 52 [.string x1] 10 σ = some (.int .i64 v1, σ)) (h8 : (0 : Int) ≤ 2 ∧ (2 : Int) < n) (h9 : c[2]? = some (.string x2)) (h10 : ∀ σ, (envT tQ).ov 52 [.string x2] 10 σ = some (.int .i64 v2, σ)) (h11 : (0 : Int) ≤ 3 ∧ (3 : Int) < n) (h12 : c[3]? = some (.string x3)) (h13 : (x3.toList == wZero.toList) = false) (h14 : (x3.toList == wSeed.toList) = true) (h15 : decide ((n : Int) > 4) = false) (h16 : ∀ σ, (envT tQ).ov 17 [cfg v0 v1 v2 2 0] 0 σ = some (.tuple #[.string T, .int .i64 0], σ)) (h17 : (!(T.toList == s.toList)) = false) :
    Pure Tryz.prog 9 tabs 19 [.string s] (.tuple #[cfg v0 v1 v2 2 0, .int .i64 0]) :=
  pureT tQ_ok (n := 4000) (v := .tuple #[cfg v0 v1 v2 2 0, .int .i64 0]) [(3, .ov (L c n 1 0)), (4, .br false), (1, .ok), (0, .is (.string x0)), (0, .ov (.int .i64 v0)), (1, .ok), (0, .is (.string x1)), (0, .ov (.int .i64 v1)), (1, .ok), (0, .is (.string x2)), (0, .ov (.int .i64 v2)), (4, .ok), (0, .is (.string x3)), (2, .br false), (2, .br true), (5, .br false), (1, .ov (.tuple #[.string T, .int .i64 0])), (12, .br false)]
    [_, _, _, _, _, _, _, _, _, _, _, _, _, _, _, _, _, _] (by kernel_rfl) ⟨h0, h1, h2, h3, h4, h5, h6, h7, h8, h9, h10, h11, h12, h13, h14, h15, h16, h17⟩ rfl (plain_PF 100 _ rfl)
theorem dpar_seed_bad (v0 v1 v2 u : Int) (s x0 x1 x2 x3 x4 : ByteArray) (c : List Value) (n : Nat) (h0 : ∀ σ, (envT tQ).ov 51 [.string s] 0 σ = some (L c n 1 0, σ)) (h1 : decide ((n : Int) < 4) = false) (h2 : (0 : Int) ≤ 0 ∧ (0 : Int) < n) (h3 : c[0]? = some (.string x0)) (h4 : ∀ σ, (envT tQ).ov 52 [.string x0] 10 σ = some (.int .i64 v0, σ)) (h5 : (0 : Int) ≤ 1 ∧ (1 : Int) < n) (h6 : c[1]? = some (.string x1)) (h7 : ∀ σ, (envT tQ).ov 52 [.string x1] 10 σ = some (.int .i64 v1, σ)) (h8 : (0 : Int) ≤ 2 ∧ (2 : Int) < n) (h9 : c[2]? = some (.string x2)) (h10 : ∀ σ, (envT tQ).ov 52 [.string x2] 10 σ = some (.int .i64 v2, σ)) (h11 : (0 : Int) ≤ 3 ∧ (3 : Int) < n) (h12 : c[3]? = some (.string x3)) (h13 : (x3.toList == wZero.toList) = false) (h14 : (x3.toList == wSeed.toList) = true) (h15 : decide ((n : Int) > 4) = true) (h16 : (0 : Int) ≤ 4 ∧ (4 : Int) < n) (h17 : c[4]? = some (.string x4)) (h18 : ∀ σ, (envT tQ).ov 53 [.string x4] 0 σ = some (.int .u64 u, σ)) (h19 : ∀ σ, (envT tQ).ov 17 [cfg v0 v1 v2 2 u] 0 σ = some (.tuple #[.string ⟨#[]⟩, .int .i64 2], σ)) :
    Pure Tryz.prog 9 tabs 19 [.string s] (.tuple #[cfg 0 0 0 0 0, .int .i64 8]) :=
  pureT tQ_ok (n := 4000) (v := .tuple #[cfg 0 0 0 0 0, .int .i64 8]) [(3, .ov (L c n 1 0)), (4, .br false), (1, .ok), (0, .is (.string x0)), (0, .ov (.int .i64 v0)), (1, .ok), (0, .is (.string x1)), (0, .ov (.int .i64 v1)), (1, .ok), (0, .is (.string x2)), (0, .ov (.int .i64 v2)), (4, .ok), (0, .is (.string x3)), (2, .br false), (2, .br true), (5, .br true), (1, .ok), (0, .is (.string x4)), (0, .ov (.int .u64 u)), (3, .ov (.tuple #[.string ⟨#[]⟩, .int .i64 2]))]
    [_, _, _, _, _, _, _, _, _, _, _, _, _, _, _, _, _, _, _, _] (by kernel_rfl) ⟨h0, h1, h2, h3, h4, h5, h6, h7, h8, h9, h10, h11, h12, h13, h14, h15, h16, h17, h18, h19⟩ rfl (plain_PF 100 _ rfl)
theorem dpar_seed_ne (v0 v1 v2 u : Int) (s x0 x1 x2 x3 x4 T : ByteArray) (c : List Value) (n : Nat) (h0 : ∀ σ, (envT tQ).ov 51 [.string s] 0 σ = some (L c n 1 0, σ)) (h1 : decide ((n : Int) < 4) = false) (h2 : (0 : Int) ≤ 0 ∧ (0 : Int) < n) (h3 : c[0]? = some (.string x0)) (h4 : ∀ σ, (envT tQ).ov 52 [.string x0] 10 σ = some (.int .i64 v0, σ)) (h5 : (0 : Int) ≤ 1 ∧ (1 : Int) < n) (h6 : c[1]? = some (.string x1)) (h7 : ∀ σ, (envT tQ).ov 52 [.string x1] 10 σ = some (.int .i64 v1, σ)) (h8 : (0 : Int) ≤ 2 ∧ (2 : Int) < n) (h9 : c[2]? = some (.string x2)) (h10 : ∀ σ, (envT tQ).ov 52 [.string x2] 10 σ = some (.int .i64 v2, σ)) (h11 : (0 : Int) ≤ 3 ∧ (3 : Int) < n) (h12 : c[3]? = some (.string x3)) (h13 : (x3.toList == wZero.toList) = false) (h14 : (x3.toList == wSeed.toList) = true) (h15 : decide ((n : Int) > 4) = true) (h16 : (0 : Int) ≤ 4 ∧ (4 : Int) < n) (h17 : c[4]? = some (.string x4)) (h18 : ∀ σ, (envT tQ).ov 53 [.string x4] 0 σ = some (.int .u64 u, σ)) (h19 : ∀ σ, (envT tQ).ov 17 [cfg v0 v1 v2 2 u] 0 σ = some (.tuple #[.string T, .int .i64 0], σ)) (h20 : (!(T.toList == s.toList)) = true) :
    Pure Tryz.prog 9 tabs 19 [.string s] (.tuple #[cfg 0 0 0 0 0, .int .i64 8]) :=
  pureT tQ_ok (n := 4000) (v := .tuple #[cfg 0 0 0 0 0, .int .i64 8]) [(3, .ov (L c n 1 0)), (4, .br false), (1, .ok), (0, .is (.string x0)), (0, .ov (.int .i64 v0)), (1, .ok), (0, .is (.string x1)), (0, .ov (.int .i64 v1)), (1, .ok), (0, .is (.string x2)), (0, .ov (.int .i64 v2)), (4, .ok), (0, .is (.string x3)), (2, .br false), (2, .br true), (5, .br true), (1, .ok), (0, .is (.string x4)), (0, .ov (.int .u64 u)), (3, .ov (.tuple #[.string T, .int .i64 0])), (12, .br true)]
    [_, _, _, _, _, _, _, _, _, _, _, _, _, _, _, _, _, _, _, _, _] (by kernel_rfl) ⟨h0, h1, h2, h3, h4, h5, h6, h7, h8, h9, h10, h11, h12, h13, h14, h15, h16, h17, h18, h19, h20⟩ rfl (plain_PF 100 _ rfl)
theorem dpar_seed_ok (v0 v1 v2 u : Int) (s x0 x1 x2 x3 x4 T : ByteArray) (c : List Value) (n : Nat) (h0 : ∀ σ, (envT tQ).ov 51 [.string s] 0 σ = some (L c n 1 0, σ)) (h1 : decide ((n : Int) < 4) = false) (h2 : (0 : Int) ≤ 0 ∧ (0 : Int) < n) (h3 : c[0]? = some (.string x0)) (h4 : ∀ σ, (envT tQ).ov 52 [.string x0] 10 σ = some (.int .i64 v0, σ)) (h5 : (0 : Int) ≤ 1 ∧ (1 : Int) < n) (h6 : c[1]? = some (.string x1)) (h7 : ∀ σ, (envT tQ).ov 52 [.string x1] 10 σ = some (.int .i64 v1, σ)) (h8 : (0 : Int) ≤ 2 ∧ (2 : Int) < n) (h9 : c[2]? = some (.string x2)) (h10 : ∀ σ, (envT tQ).ov 52 [.string x2] 10 σ = some (.int .i64 v2, σ)) (h11 : (0 : Int) ≤ 3 ∧ (3 : Int) < n) (h12 : c[3]? = some (.string x3)) (h13 : (x3.toList == wZero.toList) = false) (h14 : (x3.toList == wSeed.toList) = true) (h15 : decide ((n : Int) > 4) = true) (h16 : (0 : Int) ≤ 4 ∧ (4 : Int) < n) (h17 : c[4]? = some (.string x4)) (h18 : ∀ σ, (envT tQ).ov 53 [.string x4] 0 σ = some (.int .u64 u, σ)) (h19 : ∀ σ, (envT tQ).ov 17 [cfg v0 v1 v2 2 u] 0 σ = some (.tuple #[.string T, .int .i64 0], σ)) (h20 : (!(T.toList == s.toList)) = false) :
    Pure Tryz.prog 9 tabs 19 [.string s] (.tuple #[cfg v0 v1 v2 2 u, .int .i64 0]) :=
  pureT tQ_ok (n := 4000) (v := .tuple #[cfg v0 v1 v2 2 u, .int .i64 0]) [(3, .ov (L c n 1 0)), (4, .br false), (1, .ok), (0, .is (.string x0)), (0, .ov (.int .i64 v0)), (1, .ok), (0, .is (.string x1)), (0, .ov (.int .i64 v1)), (1, .ok), (0, .is (.string x2)), (0, .ov (.int .i64 v2)), (4, .ok), (0, .is (.string x3)), (2, .br false), (2, .br true), (5, .br true), (1, .ok), (0, .is (.string x4)), (0, .ov (.int .u64 u)), (3, .ov (.tuple #[.string T, .int .i64 0])), (12, .br false)]
    [_, _, _, _, _, _, _, _, _, _, _, _, _, _, _, _, _, _, _, _, _] (by kernel_rfl) ⟨h0, h1, h2, h3, h4, h5, h6, h7, h8, h9, h10, h11, h12, h13, h14, h15, h16, h17, h18, h19, h20⟩ rfl (plain_PF 100 _ rfl)

/-! ## What it answers -/

theorem ovQ_51 (s : ByteArray) (hs : s.size < 1000000) (lim : Nat) (σ : AS) : (envT tQ).ov 51 [.string s] lim σ = some (L (strs (splD s)) (splD s).length 1 0, σ) := by
  refine envK rfl rfl (show _ = [Value.string s] from rfl) rfl ?_
  unfold tQ
  rw [pfT_eq]
  unfold k51
  dsimp only
  rw [blt_iff.2 hs]
  rfl
theorem ovQ_52 (s : ByteArray) (lim : Nat) (σ : AS) : (envT tQ).ov 52 [.string s] lim σ = some (.int .i64 (smV s), σ) := envK rfl rfl (show _ = [Value.string s] from rfl) rfl rfl
theorem ovQ_53 (s : ByteArray) (lim : Nat) (σ : AS) : (envT tQ).ov 53 [.string s] lim σ = some (.int .u64 (numV s), σ) := envK rfl rfl (show _ = [Value.string s] from rfl) rfl rfl
theorem ovQ_17 (a b c d s : Int) (s0 : 0 ≤ s) (s1 : s < 18446744073709551616) (lim : Nat) (σ : AS) : (envT tQ).ov 17 [cfg a b c d s] lim σ = some (txtV a b c d s, σ) := by
  refine envK rfl rfl (show _ = [cfg a b c d s] from rfl) rfl ?_
  unfold tQ
  rw [pfT_ne rfl, pfT_ne rfl, pfT_ne rfl, pfT_eq]
  unfold k16 cfg
  dsimp only
  rw [decide_eq_true s0, decide_eq_true s1]
  rfl
theorem dfin_of {s : ByteArray} {a b c d x : Int} (s0 : 0 ≤ x) (s1 : x < 18446744073709551616) (bad : (∀ σ, (envT tQ).ov 17 [cfg a b c d x] 0 σ = some (.tuple #[.string ⟨#[]⟩, .int .i64 2], σ)) → Pure Tryz.prog 9 tabs 19 [.string s] e8)
    (ne : ∀ T : ByteArray, (∀ σ, (envT tQ).ov 17 [cfg a b c d x] 0 σ = some (.tuple #[.string T, .int .i64 0], σ)) → (!(T.toList == s.toList)) = true → Pure Tryz.prog 9 tabs 19 [.string s] e8)
    (ok : ∀ T : ByteArray, (∀ σ, (envT tQ).ov 17 [cfg a b c d x] 0 σ = some (.tuple #[.string T, .int .i64 0], σ)) → (!(T.toList == s.toList)) = false → Pure Tryz.prog 9 tabs 19 [.string s] (.tuple #[cfg a b c d x, .int .i64 0])) :
    Pure Tryz.prog 9 tabs 19 [.string s] (finV s a b c d x) := by
  have h := ovQ_17 a b c d x s0 s1 0
  unfold txtV at h
  unfold finV
  cases hc : chk a b c d x with
  | false => rw [hc] at h; exact bad h
  | true =>
    rw [hc] at h
    rw [Bool.true_and]
    cases ht : ((textS a.toNat b.toNat c.toNat d.toNat x.toNat).toList == s.toList) with
    | false => exact ne _ h (by rw [ht]; rfl)
    | true => exact ok _ h (by rw [ht]; rfl)
/-- What the document's Parse makes of the words. -/
def dparL (s : ByteArray) : List ByteArray → Value
  | x0 :: x1 :: x2 :: x3 :: r => bif x3.toList == wZero.toList then finV s (smV x0) (smV x1) (smV x2) 1 0 else bif x3.toList == wSeed.toList then (match r with | [] => finV s (smV x0) (smV x1) (smV x2) 2 0 | x4 :: _ => finV s (smV x0) (smV x1) (smV x2) 2 (numV x4)) else finV s (smV x0) (smV x1) (smV x2) 0 0
  | _ => e8
def dparV (s : ByteArray) : Value := dparL s (splD s)
theorem dparse (s : ByteArray) (hs : s.size < 1000000) : Pure Tryz.prog 9 tabs 19 [.string s] (dparV s) := by
  unfold dparV
  have q := ovQ_51 s hs 0
  generalize splD s = ps at q ⊢
  match ps, q with
  | [], q => exact dpar_short s _ _ q (decide_eq_true (by show ((0 : Nat) : Int) < 4; omega))
  | [_], q => exact dpar_short s _ _ q (decide_eq_true (by show ((1 : Nat) : Int) < 4; omega))
  | [_, _], q => exact dpar_short s _ _ q (decide_eq_true (by show ((2 : Nat) : Int) < 4; omega))
  | [_, _, _], q => exact dpar_short s _ _ q (decide_eq_true (by show ((3 : Nat) : Int) < 4; omega))
  | x0 :: x1 :: x2 :: x3 :: r, q =>
    have hlen : ((x0 :: x1 :: x2 :: x3 :: r).length : Int) = r.length + 4 := by simp only [List.length_cons]; omega
    have hn : decide (((x0 :: x1 :: x2 :: x3 :: r).length : Int) < 4) = false := decide_eq_false (by rw [hlen]; omega)
    have b0 : (0 : Int) ≤ 0 ∧ (0 : Int) < ((x0 :: x1 :: x2 :: x3 :: r).length : Int) := by rw [hlen]; omega
    have b1 : (0 : Int) ≤ 1 ∧ (1 : Int) < ((x0 :: x1 :: x2 :: x3 :: r).length : Int) := by rw [hlen]; omega
    have b2 : (0 : Int) ≤ 2 ∧ (2 : Int) < ((x0 :: x1 :: x2 :: x3 :: r).length : Int) := by rw [hlen]; omega
    have b3 : (0 : Int) ≤ 3 ∧ (3 : Int) < ((x0 :: x1 :: x2 :: x3 :: r).length : Int) := by rw [hlen]; omega
    have a0 := ovQ_52 x0 10
    have a1 := ovQ_52 x1 10
    have a2 := ovQ_52 x2 10
    unfold dparL
    dsimp only
    cases w0 : (x3.toList == wZero.toList) with
    | true =>
      exact dfin_of (by omega) (by omega) (fun t => dpar_zero_bad _ _ _ s x0 x1 x2 x3 _ _ q hn b0 rfl a0 b1 rfl a1 b2 rfl a2 b3 rfl w0 t)
        (fun T t h => dpar_zero_ne _ _ _ s x0 x1 x2 x3 T _ _ q hn b0 rfl a0 b1 rfl a1 b2 rfl a2 b3 rfl w0 t h)
        (fun T t h => dpar_zero_ok _ _ _ s x0 x1 x2 x3 T _ _ q hn b0 rfl a0 b1 rfl a1 b2 rfl a2 b3 rfl w0 t h)
    | false =>
      cases w1 : (x3.toList == wSeed.toList) with
      | false =>
        exact dfin_of (by omega) (by omega) (fun t => dpar_none_bad _ _ _ s x0 x1 x2 x3 _ _ q hn b0 rfl a0 b1 rfl a1 b2 rfl a2 b3 rfl w0 w1 t)
          (fun T t h => dpar_none_ne _ _ _ s x0 x1 x2 x3 T _ _ q hn b0 rfl a0 b1 rfl a1 b2 rfl a2 b3 rfl w0 w1 t h)
          (fun T t h => dpar_none_ok _ _ _ s x0 x1 x2 x3 T _ _ q hn b0 rfl a0 b1 rfl a1 b2 rfl a2 b3 rfl w0 w1 t h)
      | true =>
        match r, hlen, q, hn, b0, b1, b2, b3 with
        | [], _, q, hn, b0, b1, b2, b3 =>
          exact dfin_of (by omega) (by omega) (fun t => dpar_seed0_bad _ _ _ s x0 x1 x2 x3 _ _ q hn b0 rfl a0 b1 rfl a1 b2 rfl a2 b3 rfl w0 w1 rfl t)
            (fun T t h => dpar_seed0_ne _ _ _ s x0 x1 x2 x3 T _ _ q hn b0 rfl a0 b1 rfl a1 b2 rfl a2 b3 rfl w0 w1 rfl t h)
            (fun T t h => dpar_seed0_ok _ _ _ s x0 x1 x2 x3 T _ _ q hn b0 rfl a0 b1 rfl a1 b2 rfl a2 b3 rfl w0 w1 rfl t h)
        | x4 :: r', hlen, q, hn, b0, b1, b2, b3 =>
          have a4 := ovQ_53 x4 0
          have hl4 : ((x0 :: x1 :: x2 :: x3 :: x4 :: r').length : Int) = r'.length + 5 := by simp only [List.length_cons]; omega
          have b4 : (0 : Int) ≤ 4 ∧ (4 : Int) < ((x0 :: x1 :: x2 :: x3 :: x4 :: r').length : Int) := by rw [hl4]; omega
          have hg : decide (((x0 :: x1 :: x2 :: x3 :: x4 :: r').length : Int) > 4) = true := decide_eq_true (by rw [hl4]; omega)
          have hr := numV_range x4
          exact dfin_of hr.1 hr.2 (fun t => dpar_seed_bad _ _ _ _ s x0 x1 x2 x3 x4 _ _ q hn b0 rfl a0 b1 rfl a1 b2 rfl a2 b3 rfl w0 w1 hg b4 rfl a4 t)
            (fun T t h => dpar_seed_ne _ _ _ _ s x0 x1 x2 x3 x4 T _ _ q hn b0 rfl a0 b1 rfl a1 b2 rfl a2 b3 rfl w0 w1 hg b4 rfl a4 t h)
            (fun T t h => dpar_seed_ok _ _ _ _ s x0 x1 x2 x3 x4 T _ _ q hn b0 rfl a0 b1 rfl a1 b2 rfl a2 b3 rfl w0 w1 hg b4 rfl a4 t h)

end Go.Proofs.YtcjjlajpbakaoaaGreatDoor

/-
  SUPERBLOCK (chapter 36): the document's Parse is super's.
-/
namespace Go.Proofs.YtcjjlajpbakaoaaGreatDoor
open Go.Va

def wdL (cur : List UInt8) : List UInt8 → List (List UInt8)
  | [] => [cur]
  | c :: r => bif c == 32 then cur :: wdL [] r else wdL (cur ++ [c]) r
theorem cut_data (s : ByteArray) (f i : Nat) : (cut s f i).data.toList = (s.data.toList.drop f).take (i - f) := by
  unfold cut
  rw [Int.toNat_natCast, Int.toNat_natCast, ByteArray.data_extract, Array.toList_extract]
theorem chr_eq (s : ByteArray) (i : Nat) (h : i < s.data.toList.length) : chr s i = s.data.toList[i] := by
  unfold chr
  rw [Int.toNat_natCast, List.getD_eq_getElem?_getD, List.getElem?_eq_getElem h]
  rfl
theorem sp_beq (c : UInt8) : ((c.toNat : Int) == 32) = (c == 32) := by
  cases h : c == 32 with
  | true => rw [eq_of_beq h]; rfl
  | false => exact beq_eq_false_iff_ne.2 fun e => (beq_eq_false_iff_ne.1 h) (UInt8.toNat_inj.1 (by show c.toNat = 32; omega))
theorem wds_list (s : ByteArray) : ∀ (k f i : Nat), i + k = s.data.toList.length → f ≤ i → (wds s k f i).map (·.data.toList) = wdL ((s.data.toList.drop f).take (i - f)) (s.data.toList.drop i)
  | 0, f, i, hi, hf => by
    rw [List.drop_of_length_le (show s.data.toList.length ≤ i by omega)]
    show [(cut s f i).data.toList] = _
    rw [cut_data]
    rfl
  | k + 1, f, i, hi, hf => by
    have hl : i < s.data.toList.length := by omega
    rw [List.drop_eq_getElem_cons hl]
    unfold wds wdL
    rw [sp_beq, chr_eq s i hl]
    cases h : s.data.toList[i] == 32 with
    | true =>
      rw [cond_true, cond_true, List.map_cons, cut_data, wds_list s k (i + 1) (i + 1) (by omega) (by omega), Nat.sub_self, List.take_zero]
    | false =>
      rw [cond_false, cond_false, wds_list s k f (i + 1) (by omega) (by omega)]
      congr 1
      rw [show i + 1 - f = (i - f) + 1 by omega, List.take_add_one, List.getElem?_drop, show f + (i - f) = i by omega, List.getElem?_eq_getElem hl]
      rfl
theorem wdL_word (r : List UInt8) : ∀ (x cur : List UInt8), (32 : UInt8) ∉ x → wdL cur (x ++ 32 :: r) = (cur ++ x) :: wdL [] r
  | [], cur, _ => by
    show (bif (32 : UInt8) == 32 then cur :: wdL [] r else wdL (cur ++ [32]) r) = _
    rw [beq_self_eq_true, cond_true, List.append_nil]
  | c :: x, cur, h => by
    show (bif c == 32 then cur :: wdL [] (x ++ 32 :: r) else wdL (cur ++ [c]) (x ++ 32 :: r)) = _
    rw [beq_eq_false_iff_ne.2 (show c ≠ 32 from fun e => h (by rw [e]; exact List.mem_cons_self ..)), cond_false, wdL_word r x (cur ++ [c]) (fun m => h (List.mem_cons_of_mem _ m)), List.append_assoc]
    rfl
theorem wdL_last : ∀ (x cur : List UInt8), (32 : UInt8) ∉ x → wdL cur x = [cur ++ x]
  | [], cur, _ => by rw [List.append_nil]; rfl
  | c :: x, cur, h => by
    show (bif c == 32 then cur :: wdL [] x else wdL (cur ++ [c]) x) = _
    rw [beq_eq_false_iff_ne.2 (show c ≠ 32 from fun e => h (by rw [e]; exact List.mem_cons_self ..)), cond_false, wdL_last x (cur ++ [c]) (fun m => h (List.mem_cons_of_mem _ m)), List.append_assoc]
    rfl
theorem wdL_join : ∀ (xs : List (List UInt8)), xs ≠ [] → (∀ x ∈ xs, (32 : UInt8) ∉ x) → wdL [] (Lib.join xs [32]) = xs
  | [], h, _ => absurd rfl h
  | [x], _, h => by
    rw [show Lib.join [x] [32] = x from by rw [Lib.join_cons]; unfold Lib.joinTail; simp, wdL_last x [] (h x (by simp)), List.nil_append]
  | x :: y :: r, _, h => by
    rw [join_two, wdL_word _ x [] (h x (by simp)), List.nil_append, wdL_join (y :: r) (by simp) (fun z hz => h z (List.mem_cons_of_mem _ hz))]
theorem splD_join (l : List ByteArray) (h0 : l ≠ []) (h : ∀ x ∈ l, (32 : UInt8) ∉ x.data.toList) : splD (joinS l sp) = l := by
  apply map_data_inj
  unfold splD
  rw [wds_list _ _ 0 0 (by rw [size_len]; omega) (by omega), Nat.sub_self, List.take_zero, List.drop_zero, join_data]
  refine wdL_join _ (by intro e; exact h0 (List.map_eq_nil_iff.1 e)) fun x hx => ?_
  obtain ⟨y, hy, rfl⟩ := List.mem_map.1 hx
  exact h y hy
theorem splD_text (a b c d s : Nat) : splD (textS a b c d s) = flds a b c d s := by
  unfold textS
  refine splD_join _ (by unfold flds; simp) fun x hx => ?_
  unfold flds at hx
  rcases List.mem_append.1 hx with hx | hx
  · simp only [List.mem_cons, List.not_mem_nil, or_false] at hx
    rcases hx with rfl | rfl | rfl | rfl
    · exact no_sp_dec _
    · exact no_sp_dec _
    · exact no_sp_dec _
    · exact no_sp_word _
  · cases hb : Nat.beq d 2 with
    | true =>
      rw [hb, cond_true] at hx
      rcases List.mem_cons.1 hx with rfl | hx
      · exact no_sp_dec _
      · cases hx
    | false => rw [hb] at hx; cases hx
theorem dpar_text (a b c d s : Nat) (h : chk a b c d s = true) (hs : s < 18446744073709551616) : dparV (textS a b c d s) = .tuple #[cfg a b c d s, .int .i64 0] := by
  obtain ⟨k1, k2, k3, k4, k5, k6, k7, k8, k9⟩ := chk_spec h
  have e0 : (wZero.toList == wZero.toList) = true := beq_self_eq_true _
  have e1 : (wStd.toList == wZero.toList) = false := by rw [ByteArray.toList_eq, ByteArray.toList_eq]; decide
  have e2 : (wStd.toList == wSeed.toList) = false := by rw [ByteArray.toList_eq, ByteArray.toList_eq]; decide
  have e3 : (wSeed.toList == wZero.toList) = false := by rw [ByteArray.toList_eq, ByteArray.toList_eq]; decide
  have e4 : (wSeed.toList == wSeed.toList) = true := beq_self_eq_true _
  unfold dparV
  rw [splD_text]
  match d, k8, k9, h with
  | 0, _, k9, h =>
    have : s = 0 := by have := k9 (by decide); omega
    subst this
    show (bif wStd.toList == wZero.toList then _ else bif wStd.toList == wSeed.toList then _ else finV (textS a b c 0 0) (smV (decS a)) (smV (decS b)) (smV (decS c)) 0 0) = _
    rw [e1, e2, cond_false, cond_false, smV_dec a (by omega), smV_dec b (by omega), smV_dec c (by omega)]
    exact fin_text a b c 0 0 h
  | 1, _, k9, h =>
    have : s = 0 := by have := k9 (by decide); omega
    subst this
    show (bif wZero.toList == wZero.toList then finV (textS a b c 1 0) (smV (decS a)) (smV (decS b)) (smV (decS c)) 1 0 else _) = _
    rw [e0, cond_true, smV_dec a (by omega), smV_dec b (by omega), smV_dec c (by omega)]
    exact fin_text a b c 1 0 h
  | 2, _, _, h =>
    show (bif wSeed.toList == wZero.toList then _ else bif wSeed.toList == wSeed.toList then finV (textS a b c 2 s) (smV (decS a)) (smV (decS b)) (smV (decS c)) 2 (numV (decS s)) else _) = _
    rw [e3, e4, cond_false, cond_true, smV_dec a (by omega), smV_dec b (by omega), smV_dec c (by omega), numV_dec s hs]
    exact fin_text a b c 2 s h
  | n + 3, h3, _, _ => exact absurd h3 (by omega)
theorem e8_ne {a b c d s : Int} : e8 ≠ .tuple #[cfg a b c d s, .int .i64 0] := by
  intro h
  unfold e8 at h
  injection h with h
  injection h with h
  simp at h
theorem dfin_range {s : ByteArray} {a b c d x : Int} (x0 : 0 ≤ x) (x1 : x < 18446744073709551616) : finV s a b c d x = e8 ∨ ∃ a' b' c' d' x' : Nat, finV s a b c d x = .tuple #[cfg a' b' c' d' x', .int .i64 0] ∧ chk a' b' c' d' x' = true ∧ x' < 18446744073709551616 ∧ textS a' b' c' d' x' = s := by
  rcases finV_spec s a b c d x with h | ⟨h1, h2, h3⟩
  · exact .inl h
  · obtain ⟨k1, k2, k3, k4, k5, k6, k7, k8, _⟩ := chk_spec h2
    obtain ⟨a', rfl⟩ := Int.eq_ofNat_of_zero_le (show 0 ≤ a by omega)
    obtain ⟨b', rfl⟩ := Int.eq_ofNat_of_zero_le (show 0 ≤ b by omega)
    obtain ⟨c', rfl⟩ := Int.eq_ofNat_of_zero_le (show 0 ≤ c by omega)
    obtain ⟨d', rfl⟩ := Int.eq_ofNat_of_zero_le (show 0 ≤ d by omega)
    obtain ⟨x', rfl⟩ := Int.eq_ofNat_of_zero_le x0
    simp only [Int.toNat_natCast] at h3
    exact .inr ⟨a', b', c', d', x', h1, h2, by omega, ba_ext (by rw [← ByteArray.toList_eq, ← ByteArray.toList_eq]; exact h3)⟩
theorem dpar_spec (s : ByteArray) : dparV s = e8 ∨ ∃ a b c d x : Nat, dparV s = .tuple #[cfg a b c d x, .int .i64 0] ∧ chk a b c d x = true ∧ x < 18446744073709551616 ∧ textS a b c d x = s := by
  unfold dparV
  match splD s with
  | [] => exact .inl rfl
  | [_] => exact .inl rfl
  | [_, _] => exact .inl rfl
  | [_, _, _] => exact .inl rfl
  | x0 :: x1 :: x2 :: x3 :: r =>
    unfold dparL
    dsimp only
    cases x3.toList == wZero.toList with
    | true => exact dfin_range (by omega) (by omega)
    | false =>
      cases x3.toList == wSeed.toList with
      | false => exact dfin_range (by omega) (by omega)
      | true =>
        match r with
        | [] => exact dfin_range (by omega) (by omega)
        | x4 :: _ => exact dfin_range (numV_range x4).1 (numV_range x4).2
theorem dpar_eq (s : ByteArray) : dparV s = parV s := by
  rcases dpar_spec s with h | ⟨a, b, c, d, x, h, hc, hx, ht⟩
  · rcases par_spec s with h' | ⟨a, b, c, d, x, h', hc, hx, ht⟩
    · rw [h, h']
    · have ht : textS a b c d x = s := ba_ext (by rw [← ByteArray.toList_eq, ← ByteArray.toList_eq]; exact ht)
      have := dpar_text a b c d x hc hx
      rw [ht, h] at this
      exact absurd this e8_ne
  · rw [h, ← ht, par_text a b c d x hc hx]
theorem p19 (s : ByteArray) (hs : s.size < 100000) : Pure Tryz.prog 9 tabs 19 [.string s] (parV s) := by rw [← dpar_eq]; exact dparse s (by omega)
theorem k19_ok : KOk Tryz.prog 9 tabs 19 k18 := by
  intro args u h
  unfold k18 at h
  split at h
  · rename_i s
    cases hb : Nat.blt s.size 100000 with
    | false => rw [hb] at h; cases h
    | true =>
      rw [hb, cond_true] at h
      cases h
      exact p19 s (blt_iff.1 hb)
  · cases h

end Go.Proofs.YtcjjlajpbakaoaaGreatDoor
