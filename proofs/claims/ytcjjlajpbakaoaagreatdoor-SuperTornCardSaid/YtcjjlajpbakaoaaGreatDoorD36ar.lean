/-
  SUPERBLOCK (chapter 36): the document's Check.
-/
import Derived.Test.YtcjjlajpbakaoaaGreatDoorD36aq
namespace Go.Proofs.YtcjjlajpbakaoaaGreatDoor
open Go.Va

theorem p21 (a b c d s : Int) : Pure Tryz.prog 9 tabs 21 [cfg a b c d s] (.int .i64 (bif chk a b c d s then 0 else 2)) := by
  unfold chk
  cases h0 : decide (b < 16) with
  | true =>
    exact pureT t6_ok (n := 200) (v := .int .i64 2) [(4, .br true)] [(decide (b < 16)) = true] (by kernel_rfl) h0 rfl (.int _ _)
  | false =>
    cases h1 : decide (b > 1024) with
    | true =>
      exact pureT t6_ok (n := 200) (v := .int .i64 2) [(4, .br false), (3, .br true)] [(decide (b < 16)) = false, (decide (b > 1024)) = true] (by kernel_rfl) ⟨h0, h1⟩ rfl (.int _ _)
    | false =>
      cases h2 : decide (a < IntKind.i64.wrap (b + 18)) with
      | true =>
        exact pureT t6_ok (n := 200) (v := .int .i64 2) [(4, .br false), (3, .br false), (7, .br true)] [(decide (b < 16)) = false, (decide (b > 1024)) = false, (decide (a < IntKind.i64.wrap (b + 18))) = true] (by kernel_rfl) ⟨h0, h1, h2⟩ rfl (.int _ _)
      | false =>
        cases h3 : decide (a > 4096) with
        | true =>
          exact pureT t6_ok (n := 200) (v := .int .i64 2) [(4, .br false), (3, .br false), (7, .br false), (4, .br true)] [(decide (b < 16)) = false, (decide (b > 1024)) = false, (decide (a < IntKind.i64.wrap (b + 18))) = false, (decide (a > 4096)) = true] (by kernel_rfl) ⟨h0, h1, h2, h3⟩ rfl (.int _ _)
        | false =>
          cases h4 : decide (c < 1) with
          | true =>
            exact pureT t6_ok (n := 200) (v := .int .i64 2) [(4, .br false), (3, .br false), (7, .br false), (4, .br false), (4, .br true)] [(decide (b < 16)) = false, (decide (b > 1024)) = false, (decide (a < IntKind.i64.wrap (b + 18))) = false, (decide (a > 4096)) = false, (decide (c < 1)) = true] (by kernel_rfl) ⟨h0, h1, h2, h3, h4⟩ rfl (.int _ _)
          | false =>
            cases h5 : decide (c > 64) with
            | true =>
              exact pureT t6_ok (n := 200) (v := .int .i64 2) [(4, .br false), (3, .br false), (7, .br false), (4, .br false), (4, .br false), (4, .br true)] [(decide (b < 16)) = false, (decide (b > 1024)) = false, (decide (a < IntKind.i64.wrap (b + 18))) = false, (decide (a > 4096)) = false, (decide (c < 1)) = false, (decide (c > 64)) = true] (by kernel_rfl) ⟨h0, h1, h2, h3, h4, h5⟩ rfl (.int _ _)
            | false =>
              by_cases d0 : d = 0
              · subst d0
                cases h9 : (s != 0) with
                | true =>
                  exact pureT t6_ok (n := 200) (v := .int .i64 2) [(4, .br false), (3, .br false), (7, .br false), (4, .br false), (4, .br false), (4, .br false), (19, .br true)] [(decide (b < 16)) = false, (decide (b > 1024)) = false, (decide (a < IntKind.i64.wrap (b + 18))) = false, (decide (a > 4096)) = false, (decide (c < 1)) = false, (decide (c > 64)) = false, (s != 0) = true] (by kernel_rfl) ⟨h0, h1, h2, h3, h4, h5, h9⟩ rfl (.int _ _)
                | false =>
                  exact pureT t6_ok (n := 200) (v := .int .i64 0) [(4, .br false), (3, .br false), (7, .br false), (4, .br false), (4, .br false), (4, .br false), (19, .br false)] [(decide (b < 16)) = false, (decide (b > 1024)) = false, (decide (a < IntKind.i64.wrap (b + 18))) = false, (decide (a > 4096)) = false, (decide (c < 1)) = false, (decide (c > 64)) = false, (s != 0) = false] (by kernel_rfl) ⟨h0, h1, h2, h3, h4, h5, h9⟩ rfl (.int _ _)
              by_cases d1 : d = 1
              · subst d1
                cases h9 : (s != 0) with
                | true =>
                  exact pureT t6_ok (n := 200) (v := .int .i64 2) [(4, .br false), (3, .br false), (7, .br false), (4, .br false), (4, .br false), (4, .br false), (22, .br true)] [(decide (b < 16)) = false, (decide (b > 1024)) = false, (decide (a < IntKind.i64.wrap (b + 18))) = false, (decide (a > 4096)) = false, (decide (c < 1)) = false, (decide (c > 64)) = false, (s != 0) = true] (by kernel_rfl) ⟨h0, h1, h2, h3, h4, h5, h9⟩ rfl (.int _ _)
                | false =>
                  exact pureT t6_ok (n := 200) (v := .int .i64 0) [(4, .br false), (3, .br false), (7, .br false), (4, .br false), (4, .br false), (4, .br false), (22, .br false)] [(decide (b < 16)) = false, (decide (b > 1024)) = false, (decide (a < IntKind.i64.wrap (b + 18))) = false, (decide (a > 4096)) = false, (decide (c < 1)) = false, (decide (c > 64)) = false, (s != 0) = false] (by kernel_rfl) ⟨h0, h1, h2, h3, h4, h5, h9⟩ rfl (.int _ _)
              by_cases d2 : d = 2
              · subst d2
                exact pureT t6_ok (n := 200) (v := .int .i64 0) [(4, .br false), (3, .br false), (7, .br false), (4, .br false), (4, .br false), (4, .br false)] [(decide (b < 16)) = false, (decide (b > 1024)) = false, (decide (a < IntKind.i64.wrap (b + 18))) = false, (decide (a > 4096)) = false, (decide (c < 1)) = false, (decide (c > 64)) = false] (by kernel_rfl) ⟨h0, h1, h2, h3, h4, h5⟩ rfl (.int _ _)
              have e : (bif decide (d < 0) then false else bif decide (d ≥ 3) then false else bif d != 2 then !(s != 0) else true) = false := by
                by_cases e1 : d < 0
                · rw [decide_eq_true e1]; rfl
                · rw [decide_eq_false e1, decide_eq_true (show d ≥ 3 by omega)]; rfl
              rw [e]
              exact pureT t6_ok (n := 200) (v := .int .i64 2) [(4, .br false), (3, .br false), (7, .br false), (4, .br false), (4, .br false), (4, .br false), (5, .br true), (4, .br true), (4, .br true)] [(decide (b < 16)) = false, (decide (b > 1024)) = false, (decide (a < IntKind.i64.wrap (b + 18))) = false, (decide (a > 4096)) = false, (decide (c < 1)) = false, (decide (c > 64)) = false, (d != 0) = true, (d != 1) = true, (d != 2) = true] (by kernel_rfl) ⟨h0, h1, h2, h3, h4, h5, bne_iff_ne.2 d0, bne_iff_ne.2 d1, bne_iff_ne.2 d2⟩ rfl (.int _ _)

theorem k21_ok : KOk Tryz.prog 9 tabs 21 k20 := by
  intro args v h
  unfold k20 at h
  split at h
  · cases h; exact p21 _ _ _ _ _
  · cases h

/-! ## The document's Encode -/

def rE : Ktab := (21, k20) :: (58, k58) :: (60, k60) :: (59, k59) :: t3
theorem rE_ok : TOk Tryz.prog 9 tabs rE := ⟨k21_ok, k58_ok, k60_ok, k59_ok, t3_ok⟩

end Go.Proofs.YtcjjlajpbakaoaaGreatDoor
