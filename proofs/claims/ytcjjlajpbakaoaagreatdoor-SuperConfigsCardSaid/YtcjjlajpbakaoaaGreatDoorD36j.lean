/-
  SUPERBLOCK (chapter 36): drafts, layouts.
-/
import Derived.Test.YtcjjlajpbakaoaaGreatDoorD36i
namespace Go.Proofs.YtcjjlajpbakaoaaGreatDoor
open Go.Va

def drf (e l s c t sd : Int) : Value := .agg ⟨[.int .u64 e, .int .u16 l, .int .u16 s, .int .u16 c, .int .u8 t, .int .u64 sd]⟩
def sup (e a b c d s : Int) : Value := .agg ⟨[.int .i64 e, .int .i64 a, .int .i64 b, .int .i64 c, .int .i64 d, .int .u64 s]⟩
def S30 (e l s c t sd log cache table : Int) : AS := (((base0 9 tabs).push (.cells [.int .u64 e, .int .u16 l, .int .u16 s, .int .u16 c, .int .u8 t, .int .u64 sd] true (none, some 61) none)).push (.cells [.int .i64 0, .int .i64 0, .int .i64 0, .int .i64 0, .int .i64 0, .int .u64 0] true (none, some 36) none)).push (.cells [.int .i64 0, .int .i64 log, .int .i64 cache, .int .i64 table, .int .u64 0] true (none, some 24) none)
theorem rem_run {x y : Int} (hy : y ≠ 0) (lim : Nat) (σ : AS) : runA Tryz.prog lim (binOp .rem 3 (.int .i64 x) (.int .i64 y)) σ = some (.int .i64 (x.tmod y), σ) := by
  show runA Tryz.prog lim (Op.intDiv .rem .i64 x y) σ = _
  unfold Op.intDiv
  rw [if_neg hy]
  rfl

def h30 (e l s c t sd log cache table r : Int) (b : Bool) : List (Nat × Hint) := [(6, .eq (.int .i64 log)), (4, .eq (.int .i64 cache)), (3, .eq (.int .i64 table)), (13, .sem (.int .i64 r) (S30 e l s c t sd log cache table)), (6, .br b)]
theorem p30a (e l s c t sd log cache table r : Int) (h1 : Value.int .i64 (IntKind.i64.wrap (16 + (IntKind.i64.wrap l).tmod 1009)) = .int .i64 log) (h2 : Value.int .i64 (IntKind.i64.wrap (1 + (IntKind.i64.wrap c).tmod 64)) = .int .i64 cache)
    (h3 : Value.int .i64 (IntKind.i64.wrap (t.tmod 3)) = .int .i64 table)
    (h4 : runA Tryz.prog 12 (binOp .rem 3 (.int .i64 (IntKind.i64.wrap s)) (.int .i64 (IntKind.i64.wrap (IntKind.i64.wrap (4096 - log) - 17)))) (S30 e l s c t sd log cache table) = some (.int .i64 r, S30 e l s c t sd log cache table))
    (h5 : (table == 2) = true) : Pure Tryz.prog 9 tabs 30 [drf e l s c t sd] (sup (IntKind.i64.wrap (1 + IntKind.i64.wrap (e.tmod 1099511627776))) (IntKind.i64.wrap (IntKind.i64.wrap (log + 18) + r)) log cache table sd) :=
  pureT t7_ok (n := 200) (v := sup (IntKind.i64.wrap (1 + IntKind.i64.wrap (e.tmod 1099511627776))) (IntKind.i64.wrap (IntKind.i64.wrap (log + 18) + r)) log cache table sd) (h30 e l s c t sd log cache table r true)
    [Value.int .i64 (IntKind.i64.wrap (16 + (IntKind.i64.wrap l).tmod 1009)) = .int .i64 log, Value.int .i64 (IntKind.i64.wrap (1 + (IntKind.i64.wrap c).tmod 64)) = .int .i64 cache, Value.int .i64 (IntKind.i64.wrap (t.tmod 3)) = .int .i64 table, _, (table == 2) = true]
    (by kernel_rfl) ⟨h1, h2, h3, h4, h5⟩ rfl (plain_PF 100 _ rfl)
theorem p30b (e l s c t sd log cache table r : Int) (h1 : Value.int .i64 (IntKind.i64.wrap (16 + (IntKind.i64.wrap l).tmod 1009)) = .int .i64 log) (h2 : Value.int .i64 (IntKind.i64.wrap (1 + (IntKind.i64.wrap c).tmod 64)) = .int .i64 cache)
    (h3 : Value.int .i64 (IntKind.i64.wrap (t.tmod 3)) = .int .i64 table)
    (h4 : runA Tryz.prog 12 (binOp .rem 3 (.int .i64 (IntKind.i64.wrap s)) (.int .i64 (IntKind.i64.wrap (IntKind.i64.wrap (4096 - log) - 17)))) (S30 e l s c t sd log cache table) = some (.int .i64 r, S30 e l s c t sd log cache table))
    (h5 : (table == 2) = false) : Pure Tryz.prog 9 tabs 30 [drf e l s c t sd] (sup (IntKind.i64.wrap (1 + IntKind.i64.wrap (e.tmod 1099511627776))) (IntKind.i64.wrap (IntKind.i64.wrap (log + 18) + r)) log cache table 0) :=
  pureT t7_ok (n := 200) (v := sup (IntKind.i64.wrap (1 + IntKind.i64.wrap (e.tmod 1099511627776))) (IntKind.i64.wrap (IntKind.i64.wrap (log + 18) + r)) log cache table 0) (h30 e l s c t sd log cache table r false)
    [Value.int .i64 (IntKind.i64.wrap (16 + (IntKind.i64.wrap l).tmod 1009)) = .int .i64 log, Value.int .i64 (IntKind.i64.wrap (1 + (IntKind.i64.wrap c).tmod 64)) = .int .i64 cache, Value.int .i64 (IntKind.i64.wrap (t.tmod 3)) = .int .i64 table, _, (table == 2) = false]
    (by kernel_rfl) ⟨h1, h2, h3, h4, h5⟩ rfl (plain_PF 100 _ rfl)

theorem p30 (e l s c t sd : Nat) (hl : l < 65536) (hs : s < 65536) (hc : c < 65536) (ht : t < 256) :
    Pure Tryz.prog 9 tabs 30 [drf e l s c t sd] (sup ((1 + e % 1099511627776 : Nat) : Int) ((16 + l % 1009 + 18 + s % (4096 - (16 + l % 1009) - 17) : Nat) : Int) ((16 + l % 1009 : Nat) : Int) ((1 + c % 64 : Nat) : Int) ((t % 3 : Nat) : Int) ((bif Nat.beq (t % 3) 2 then sd else 0 : Nat) : Int)) := by
  have hlog : IntKind.i64.wrap (16 + (IntKind.i64.wrap (l : Int)).tmod 1009) = ((16 + l % 1009 : Nat) : Int) := by
    rw [wrap64 (n := (l : Int)) (by omega) (by omega), Int.tmod_eq_emod_of_nonneg (by omega), wrap64 (by omega) (by omega)]; omega
  have hcache : IntKind.i64.wrap (1 + (IntKind.i64.wrap (c : Int)).tmod 64) = ((1 + c % 64 : Nat) : Int) := by
    rw [wrap64 (n := (c : Int)) (by omega) (by omega), Int.tmod_eq_emod_of_nonneg (by omega), wrap64 (by omega) (by omega)]; omega
  have htab : IntKind.i64.wrap ((t : Int).tmod 3) = ((t % 3 : Nat) : Int) := by
    rw [Int.tmod_eq_emod_of_nonneg (by omega), wrap64 (by omega) (by omega)]; omega
  have hdiv : IntKind.i64.wrap (IntKind.i64.wrap (4096 - ((16 + l % 1009 : Nat) : Int)) - 17) = ((4096 - (16 + l % 1009) - 17 : Nat) : Int) := by
    rw [wrap64 (n := 4096 - ((16 + l % 1009 : Nat) : Int)) (by omega) (by omega), wrap64 (by omega) (by omega)]; omega
  have hpos : 4096 - (16 + l % 1009) - 17 ≥ 3000 := by omega
  have hmod : s % (4096 - (16 + l % 1009) - 17) < 4096 - (16 + l % 1009) - 17 := Nat.mod_lt _ (by omega)
  have hr : runA Tryz.prog 12 (binOp .rem 3 (.int .i64 (IntKind.i64.wrap (s : Int))) (.int .i64 (IntKind.i64.wrap (IntKind.i64.wrap (4096 - ((16 + l % 1009 : Nat) : Int)) - 17)))) (S30 e l s c t sd ((16 + l % 1009 : Nat) : Int) ((1 + c % 64 : Nat) : Int) ((t % 3 : Nat) : Int)) =
      some (.int .i64 ((s % (4096 - (16 + l % 1009) - 17) : Nat) : Int), S30 e l s c t sd ((16 + l % 1009 : Nat) : Int) ((1 + c % 64 : Nat) : Int) ((t % 3 : Nat) : Int)) := by
    rw [hdiv, wrap64 (n := (s : Int)) (by omega) (by omega), rem_run (by omega), Int.tmod_eq_emod_of_nonneg (by omega), ← Int.natCast_emod]
  have he1 : IntKind.i64.wrap (1 + IntKind.i64.wrap ((e : Int).tmod 1099511627776)) = ((1 + e % 1099511627776 : Nat) : Int) := by
    rw [Int.tmod_eq_emod_of_nonneg (by omega), wrap64 (n := (e : Int) % 1099511627776) (by omega) (by omega), wrap64 (by omega) (by omega)]; omega
  have hsec : IntKind.i64.wrap (IntKind.i64.wrap (((16 + l % 1009 : Nat) : Int) + 18) + ((s % (4096 - (16 + l % 1009) - 17) : Nat) : Int)) = ((16 + l % 1009 + 18 + s % (4096 - (16 + l % 1009) - 17) : Nat) : Int) := by
    rw [wrap64 (n := ((16 + l % 1009 : Nat) : Int) + 18) (by omega) (by omega), wrap64 (by omega) (by omega)]; omega
  rw [← he1, ← hsec]
  cases h2 : Nat.beq (t % 3) 2 with
  | true =>
    have h3 : (((t % 3 : Nat) : Int) == 2) = true := by
      have := Nat.eq_of_beq_eq_true h2
      rw [this]; rfl
    exact p30a _ _ _ _ _ _ _ _ _ _ (congrArg _ hlog) (congrArg _ hcache) (congrArg _ htab) hr h3
  | false =>
    have h3 : (((t % 3 : Nat) : Int) == 2) = false := by
      rw [beq_eq_false_iff_ne]
      intro h
      have : t % 3 = 2 := by omega
      rw [this] at h2; cases h2
    exact p30b _ _ _ _ _ _ _ _ _ _ (congrArg _ hlog) (congrArg _ hcache) (congrArg _ htab) hr h3

/-- Layout of a configuration that is not valid. -/
theorem p14_no (a b c d s : Int) (h : chk a b c d s = false) : Pure Tryz.prog 9 tabs 14 [cfg a b c d s] (.tuple #[.int .i64 0, .int .i64 0, .int .i64 0, .int .i64 2]) :=
  pureT t7_ok (n := 200) (v := .tuple #[.int .i64 0, .int .i64 0, .int .i64 0, .int .i64 2]) [(6, .ov (.int .i64 2))] [∀ σ, (envT t7).ov 20 [cfg a b c d s] 0 σ = some (.int .i64 2, σ)] (by kernel_rfl) (fun σ => by rw [ov7_20, h]; rfl) rfl (plain_PF 100 _ rfl)
theorem p14_yes (a b c d s : Int) (h : chk a b c d s = true) : Pure Tryz.prog 9 tabs 14 [cfg a b c d s] (.tuple #[.int .i64 2, .int .i64 (IntKind.i64.wrap (2 + b)), .int .i64 (IntKind.i64.wrap ((IntKind.i64.wrap (a - IntKind.i64.wrap (2 + b))).tdiv 4)), .int .i64 0]) :=
  pureT t7_ok (n := 200) (v := .tuple #[.int .i64 2, .int .i64 (IntKind.i64.wrap (2 + b)), .int .i64 (IntKind.i64.wrap ((IntKind.i64.wrap (a - IntKind.i64.wrap (2 + b))).tdiv 4)), .int .i64 0]) [(6, .ov (.int .i64 0))] [∀ σ, (envT t7).ov 20 [cfg a b c d s] 0 σ = some (.int .i64 0, σ)] (by kernel_rfl) (fun σ => by rw [ov7_20, h]; rfl) rfl (plain_PF 100 _ rfl)

end Go.Proofs.YtcjjlajpbakaoaaGreatDoor
