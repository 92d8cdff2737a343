/-
  SUPERBLOCK (chapter 36): super.Check.
-/
import Derived.Test.YtcjjlajpbakaoaaGreatDoorD36h
namespace Go.Proofs.YtcjjlajpbakaoaaGreatDoor
open Go.Va

def cfg (a b c d s : Int) : Value := .agg ⟨[.int .i64 a, .int .i64 b, .int .i64 c, .int .i64 d, .int .u64 s]⟩
/-- Is a configuration valid? -/
def chk (a b c d s : Int) : Bool :=
  bif decide (b < 16) then false else bif decide (b > 1024) then false else bif decide (a < IntKind.i64.wrap (b + 18)) then false else bif decide (a > 4096) then false else bif decide (c < 1) then false else bif decide (c > 64) then false else bif decide (d < 0) then false else bif decide (d ≥ 3) then false else bif d != 2 then !(s != 0) else true
theorem p20 (a b c d s : Int) : Pure Tryz.prog 9 tabs 20 [cfg a b c d s] (.int .i64 (bif chk a b c d s then 0 else 2)) := by
  unfold chk
  cases h0 : decide (b < 16) with
  | true =>
    exact pureT t6_ok (n := 200) (v := .int .i64 2) [(5, .br true)] [(decide (b < 16)) = true] (by kernel_rfl) h0 rfl (.int _ _)
  | false =>
    cases h1 : decide (b > 1024) with
    | true =>
      exact pureT t6_ok (n := 200) (v := .int .i64 2) [(5, .br false), (5, .br true), (0, .br true)] [(decide (b < 16)) = false, (decide (b > 1024)) = true, (decide (b > 1024)) = true] (by kernel_rfl) ⟨h0, h1, h1⟩ rfl (.int _ _)
    | false =>
      cases h2 : decide (a < IntKind.i64.wrap (b + 18)) with
      | true =>
        exact pureT t6_ok (n := 200) (v := .int .i64 2) [(5, .br false), (5, .br false), (6, .br true)] [(decide (b < 16)) = false, (decide (b > 1024)) = false, (decide (a < IntKind.i64.wrap (b + 18))) = true] (by kernel_rfl) ⟨h0, h1, h2⟩ rfl (.int _ _)
      | false =>
        cases h3 : decide (a > 4096) with
        | true =>
          exact pureT t6_ok (n := 200) (v := .int .i64 2) [(5, .br false), (5, .br false), (6, .br false), (5, .br true), (0, .br true)] [(decide (b < 16)) = false, (decide (b > 1024)) = false, (decide (a < IntKind.i64.wrap (b + 18))) = false, (decide (a > 4096)) = true, (decide (a > 4096)) = true] (by kernel_rfl) ⟨h0, h1, h2, h3, h3⟩ rfl (.int _ _)
        | false =>
          cases h4 : decide (c < 1) with
          | true =>
            exact pureT t6_ok (n := 200) (v := .int .i64 2) [(5, .br false), (5, .br false), (6, .br false), (5, .br false), (3, .br true)] [(decide (b < 16)) = false, (decide (b > 1024)) = false, (decide (a < IntKind.i64.wrap (b + 18))) = false, (decide (a > 4096)) = false, (decide (c < 1)) = true] (by kernel_rfl) ⟨h0, h1, h2, h3, h4⟩ rfl (.int _ _)
          | false =>
            cases h5 : decide (c > 64) with
            | true =>
              exact pureT t6_ok (n := 200) (v := .int .i64 2) [(5, .br false), (5, .br false), (6, .br false), (5, .br false), (3, .br false), (5, .br true), (0, .br true)] [(decide (b < 16)) = false, (decide (b > 1024)) = false, (decide (a < IntKind.i64.wrap (b + 18))) = false, (decide (a > 4096)) = false, (decide (c < 1)) = false, (decide (c > 64)) = true, (decide (c > 64)) = true] (by kernel_rfl) ⟨h0, h1, h2, h3, h4, h5, h5⟩ rfl (.int _ _)
            | false =>
              cases h6 : decide (d < 0) with
              | true =>
                exact pureT t6_ok (n := 200) (v := .int .i64 2) [(5, .br false), (5, .br false), (6, .br false), (5, .br false), (3, .br false), (5, .br false), (3, .br true)] [(decide (b < 16)) = false, (decide (b > 1024)) = false, (decide (a < IntKind.i64.wrap (b + 18))) = false, (decide (a > 4096)) = false, (decide (c < 1)) = false, (decide (c > 64)) = false, (decide (d < 0)) = true] (by kernel_rfl) ⟨h0, h1, h2, h3, h4, h5, h6⟩ rfl (.int _ _)
              | false =>
                cases h7 : decide (d ≥ 3) with
                | true =>
                  exact pureT t6_ok (n := 200) (v := .int .i64 2) [(5, .br false), (5, .br false), (6, .br false), (5, .br false), (3, .br false), (5, .br false), (3, .br false), (5, .br true), (0, .br true)] [(decide (b < 16)) = false, (decide (b > 1024)) = false, (decide (a < IntKind.i64.wrap (b + 18))) = false, (decide (a > 4096)) = false, (decide (c < 1)) = false, (decide (c > 64)) = false, (decide (d < 0)) = false, (decide (d ≥ 3)) = true, (decide (d ≥ 3)) = true] (by kernel_rfl) ⟨h0, h1, h2, h3, h4, h5, h6, h7, h7⟩ rfl (.int _ _)
                | false =>
                  cases h8 : (d != 2) with
                  | false =>
                    exact pureT t6_ok (n := 200) (v := .int .i64 0) [(5, .br false), (5, .br false), (6, .br false), (5, .br false), (3, .br false), (5, .br false), (3, .br false), (5, .br false), (3, .br false)] [(decide (b < 16)) = false, (decide (b > 1024)) = false, (decide (a < IntKind.i64.wrap (b + 18))) = false, (decide (a > 4096)) = false, (decide (c < 1)) = false, (decide (c > 64)) = false, (decide (d < 0)) = false, (decide (d ≥ 3)) = false, (d != 2) = false] (by kernel_rfl) ⟨h0, h1, h2, h3, h4, h5, h6, h7, h8⟩ rfl (.int _ _)
                  | true =>
                    cases h9 : (s != 0) with
                    | true =>
                      exact pureT t6_ok (n := 200) (v := .int .i64 2) [(5, .br false), (5, .br false), (6, .br false), (5, .br false), (3, .br false), (5, .br false), (3, .br false), (5, .br false), (3, .br true), (5, .br true)] [(decide (b < 16)) = false, (decide (b > 1024)) = false, (decide (a < IntKind.i64.wrap (b + 18))) = false, (decide (a > 4096)) = false, (decide (c < 1)) = false, (decide (c > 64)) = false, (decide (d < 0)) = false, (decide (d ≥ 3)) = false, (d != 2) = true, (s != 0) = true] (by kernel_rfl) ⟨h0, h1, h2, h3, h4, h5, h6, h7, h8, h9⟩ rfl (.int _ _)
                    | false =>
                      exact pureT t6_ok (n := 200) (v := .int .i64 0) [(5, .br false), (5, .br false), (6, .br false), (5, .br false), (3, .br false), (5, .br false), (3, .br false), (5, .br false), (3, .br true), (5, .br false)] [(decide (b < 16)) = false, (decide (b > 1024)) = false, (decide (a < IntKind.i64.wrap (b + 18))) = false, (decide (a > 4096)) = false, (decide (c < 1)) = false, (decide (c > 64)) = false, (decide (d < 0)) = false, (decide (d ≥ 3)) = false, (d != 2) = true, (s != 0) = false] (by kernel_rfl) ⟨h0, h1, h2, h3, h4, h5, h6, h7, h8, h9⟩ rfl (.int _ _)

def k20 : List Value → Option Value
  | [.agg ⟨[.int .i64 a, .int .i64 b, .int .i64 c, .int .i64 d, .int .u64 s]⟩] => some (.int .i64 (bif chk a b c d s then 0 else 2))
  | _ => none
theorem k20_ok : KOk Tryz.prog 9 tabs 20 k20 := by
  intro args v h
  unfold k20 at h
  split at h
  · cases h; exact p20 _ _ _ _ _
  · cases h
def t7 : Ktab := (20, k20) :: t6
theorem t7_ok : TOk Tryz.prog 9 tabs t7 := ⟨k20_ok, t6_ok⟩
theorem ov7_20 (a b c d s : Int) (lim : Nat) (σ : AS) : (envT t7).ov 20 [cfg a b c d s] lim σ = some (.int .i64 (bif chk a b c d s then 0 else 2), σ) :=
  envK rfl rfl rfl rfl rfl

end Go.Proofs.YtcjjlajpbakaoaaGreatDoor
