/-
  The functions that the statement reaches: what they answer, part 7.
-/
import Derived.Test.YtcjjlajpbakaoaaGreatDoorPart10
import Derived.Test.YtcjjlajpbakaoaaGreatDoorD36aw

/-
  SUPERBLOCK (chapter 36): SuperConfigs: the tables.
-/
namespace Go.Proofs.YtcjjlajpbakaoaaGreatDoor
open Go.Va

def tC : Ktab := (15, k15) :: (17, k16) :: (19, k18) :: (21, k20) :: tRv
theorem tC_ok : TOk Tryz.prog 9 tabs tC := ⟨k15_ok, k17_ok, k19_ok, k21_ok, tRv_ok⟩
theorem ovC_15 (a b c d s : Int) (lim : Nat) (σ : AS) : (envT tC).ov 15 [cfg a b c d s] lim σ = some (layV a b c d s, σ) := envK rfl rfl rfl rfl rfl
theorem ovC_14 (a b c d s : Int) (lim : Nat) (σ : AS) : (envT tC).ov 14 [cfg a b c d s] lim σ = some (layV a b c d s, σ) := envK rfl rfl rfl rfl rfl
theorem ovC_20 (a b c d s : Int) (lim : Nat) (σ : AS) : (envT tC).ov 20 [cfg a b c d s] lim σ = some (.int .i64 (bif chk a b c d s then 0 else 2), σ) := envK rfl rfl rfl rfl rfl
theorem ovC_21 (a b c d s : Int) (lim : Nat) (σ : AS) : (envT tC).ov 21 [cfg a b c d s] lim σ = some (.int .i64 (bif chk a b c d s then 0 else 2), σ) := envK rfl rfl rfl rfl rfl
theorem ovC_18 (s : ByteArray) (hs : s.size < 100000) (lim : Nat) (σ : AS) : (envT tC).ov 18 [.string s] lim σ = some (parV s, σ) := by
  refine envK rfl rfl (show _ = [Value.string s] from rfl) rfl ?_
  unfold tC tRv
  rw [pfT_ne rfl, pfT_ne rfl, pfT_ne rfl, pfT_ne rfl, pfT_eq]
  unfold k18
  dsimp only
  rw [blt_iff.2 hs]
  rfl
theorem ovC_19 (s : ByteArray) (hs : s.size < 100000) (lim : Nat) (σ : AS) : (envT tC).ov 19 [.string s] lim σ = some (parV s, σ) := by
  refine envK rfl rfl (show _ = [Value.string s] from rfl) rfl ?_
  unfold tC
  rw [pfT_ne rfl, pfT_ne rfl, pfT_eq]
  unfold k18
  dsimp only
  rw [blt_iff.2 hs]
  rfl
theorem ovC_16 (a b c d s : Int) (s0 : 0 ≤ s) (s1 : s < 18446744073709551616) (lim : Nat) (σ : AS) : (envT tC).ov 16 [cfg a b c d s] lim σ = some (txtV a b c d s, σ) := by
  refine envK rfl rfl (show _ = [cfg a b c d s] from rfl) rfl ?_
  unfold tC tRv
  rw [pfT_ne rfl, pfT_ne rfl, pfT_ne rfl, pfT_ne rfl, pfT_ne rfl, pfT_eq]
  unfold k16 cfg
  dsimp only
  rw [decide_eq_true s0, decide_eq_true s1]
  rfl
theorem ovC_17 (a b c d s : Int) (s0 : 0 ≤ s) (s1 : s < 18446744073709551616) (lim : Nat) (σ : AS) : (envT tC).ov 17 [cfg a b c d s] lim σ = some (txtV a b c d s, σ) := by
  refine envK rfl rfl (show _ = [cfg a b c d s] from rfl) rfl ?_
  unfold tC
  rw [pfT_ne rfl, pfT_eq]
  unfold k16 cfg
  dsimp only
  rw [decide_eq_true s0, decide_eq_true s1]
  rfl

end Go.Proofs.YtcjjlajpbakaoaaGreatDoor

/-
  SUPERBLOCK (chapter 36): SuperConfigs: the law.
-/
namespace Go.Proofs.YtcjjlajpbakaoaaGreatDoor
open Go.Va

def SC (a b c d s a' b' c' d' s' : Int) : AS := (((base0 9 tabs).push (.cells (cf a b c d s) true (none, some 24) none)).push (.cells (cf a' b' c' d' s') true (none, some 24) none)).push (.cells (cf a' b' c' d' s') true (none, some 24) none)
theorem sc_big (a b c d s : Int) (t : ByteArray) (h0 : decide ((t.size : Int) > 300) = true) : Pure Tryz.prog 9 tabs 3 [cfg a b c d s, .string t] (.bool true) :=
  pureT tC_ok (n := 4000) (v := .bool true) [(5, .br true)] [_] (by kernel_rfl) h0 rfl (.bool _)
theorem sc_yy (a b c d s w1 w2 a' b' c' d' s' : Int) (t T : ByteArray) (h0 : decide ((t.size : Int) > 300) = false) (h1 : (∀ k σ, (envT tC).ov 14 [cfg a b c d s] k σ = some (.tuple #[.int .i64 2, .int .i64 w1, .int .i64 w2, .int .i64 0], σ))) (h2 : (∀ k σ, (envT tC).ov 15 [cfg a b c d s] k σ = some (.tuple #[.int .i64 2, .int .i64 w1, .int .i64 w2, .int .i64 0], σ))) (h3 : (∀ k σ, (envT tC).ov 16 [cfg a b c d s] k σ = some (.tuple #[.string T, .int .i64 0], σ))) (h4 : (∀ k σ, (envT tC).ov 17 [cfg a b c d s] k σ = some (.tuple #[.string T, .int .i64 0], σ))) (h5 : (∀ k σ, (envT tC).ov 18 [.string t] k σ = some ((.tuple #[cfg a' b' c' d' s', .int .i64 0]), σ))) (h6 : (∀ k σ, (envT tC).ov 19 [.string t] k σ = some ((.tuple #[cfg a' b' c' d' s', .int .i64 0]), σ))) (h7 : ∀ k σ, runA Tryz.prog k (binOp .eql 24 (cfg a' b' c' d' s') (cfg a' b' c' d' s')) σ = some (.bool true, σ)) : Pure Tryz.prog 9 tabs 3 [cfg a b c d s, .string t] (.bool true) :=
  pureT tC_ok (n := 4000) (v := .bool true) [(5, .br false), (1, .ov (.tuple #[.int .i64 2, .int .i64 w1, .int .i64 w2, .int .i64 0])), (10, .ov (.tuple #[.int .i64 2, .int .i64 w1, .int .i64 w2, .int .i64 0])), (10, .ov (.tuple #[.string T, .int .i64 0])), (6, .ov (.tuple #[.string T, .int .i64 0])), (6, .ov (.tuple #[cfg a' b' c' d' s', .int .i64 0])), (7, .ov (.tuple #[cfg a' b' c' d' s', .int .i64 0])), (11, .br true), (9, .br true), (4, .br true), (9, .br true), (7, .sem (.bool true) (SC a b c d s a' b' c' d' s'))]
    [_, _, _, _, _, _, _, ((bif chk a b c d s then (0 : Int) else 2) == (bif chk a b c d s then (0 : Int) else 2)) = true, (w1 == w1) = true, (w2 == w2) = true, (T.toList == T.toList) = true, _] (by kernel_rfl) ⟨h0, h1 0, h2 0, h3 0, h4 0, h5 0, h6 0, (beq_self_eq_true _), (beq_self_eq_true w1), (beq_self_eq_true w2), (beq_self_eq_true T.toList), h7 0 (SC a b c d s a' b' c' d' s')⟩ rfl (.bool _)
theorem sc_yn (a b c d s w1 w2 : Int) (t T : ByteArray) (h0 : decide ((t.size : Int) > 300) = false) (h1 : (∀ k σ, (envT tC).ov 14 [cfg a b c d s] k σ = some (.tuple #[.int .i64 2, .int .i64 w1, .int .i64 w2, .int .i64 0], σ))) (h2 : (∀ k σ, (envT tC).ov 15 [cfg a b c d s] k σ = some (.tuple #[.int .i64 2, .int .i64 w1, .int .i64 w2, .int .i64 0], σ))) (h3 : (∀ k σ, (envT tC).ov 16 [cfg a b c d s] k σ = some (.tuple #[.string T, .int .i64 0], σ))) (h4 : (∀ k σ, (envT tC).ov 17 [cfg a b c d s] k σ = some (.tuple #[.string T, .int .i64 0], σ))) (h5 : (∀ k σ, (envT tC).ov 18 [.string t] k σ = some (e8, σ))) (h6 : (∀ k σ, (envT tC).ov 19 [.string t] k σ = some (e8, σ))) : Pure Tryz.prog 9 tabs 3 [cfg a b c d s, .string t] (.bool true) :=
  pureT tC_ok (n := 4000) (v := .bool true) [(5, .br false), (1, .ov (.tuple #[.int .i64 2, .int .i64 w1, .int .i64 w2, .int .i64 0])), (10, .ov (.tuple #[.int .i64 2, .int .i64 w1, .int .i64 w2, .int .i64 0])), (10, .ov (.tuple #[.string T, .int .i64 0])), (6, .ov (.tuple #[.string T, .int .i64 0])), (6, .ov e8), (7, .ov e8), (11, .br true), (9, .br true), (4, .br true), (9, .br true)]
    [_, _, _, _, _, _, _, ((bif chk a b c d s then (0 : Int) else 2) == (bif chk a b c d s then (0 : Int) else 2)) = true, (w1 == w1) = true, (w2 == w2) = true, (T.toList == T.toList) = true] (by kernel_rfl) ⟨h0, h1 0, h2 0, h3 0, h4 0, h5 0, h6 0, (beq_self_eq_true _), (beq_self_eq_true w1), (beq_self_eq_true w2), (beq_self_eq_true T.toList)⟩ rfl (.bool _)
theorem sc_ny (a b c d s a' b' c' d' s' : Int) (t : ByteArray) (h0 : decide ((t.size : Int) > 300) = false) (h1 : (∀ k σ, (envT tC).ov 14 [cfg a b c d s] k σ = some (.tuple #[.int .i64 0, .int .i64 0, .int .i64 0, .int .i64 2], σ))) (h2 : (∀ k σ, (envT tC).ov 15 [cfg a b c d s] k σ = some (.tuple #[.int .i64 0, .int .i64 0, .int .i64 0, .int .i64 2], σ))) (h3 : (∀ k σ, (envT tC).ov 16 [cfg a b c d s] k σ = some (.tuple #[.string ⟨#[]⟩, .int .i64 2], σ))) (h4 : (∀ k σ, (envT tC).ov 17 [cfg a b c d s] k σ = some (.tuple #[.string ⟨#[]⟩, .int .i64 2], σ))) (h5 : (∀ k σ, (envT tC).ov 18 [.string t] k σ = some ((.tuple #[cfg a' b' c' d' s', .int .i64 0]), σ))) (h6 : (∀ k σ, (envT tC).ov 19 [.string t] k σ = some ((.tuple #[cfg a' b' c' d' s', .int .i64 0]), σ))) (h7 : ∀ k σ, runA Tryz.prog k (binOp .eql 24 (cfg a' b' c' d' s') (cfg a' b' c' d' s')) σ = some (.bool true, σ)) : Pure Tryz.prog 9 tabs 3 [cfg a b c d s, .string t] (.bool true) :=
  pureT tC_ok (n := 4000) (v := .bool true) [(5, .br false), (1, .ov (.tuple #[.int .i64 0, .int .i64 0, .int .i64 0, .int .i64 2])), (10, .ov (.tuple #[.int .i64 0, .int .i64 0, .int .i64 0, .int .i64 2])), (10, .ov (.tuple #[.string ⟨#[]⟩, .int .i64 2])), (6, .ov (.tuple #[.string ⟨#[]⟩, .int .i64 2])), (6, .ov (.tuple #[cfg a' b' c' d' s', .int .i64 0])), (7, .ov (.tuple #[cfg a' b' c' d' s', .int .i64 0])), (11, .br true), (32, .sem (.bool true) (SC a b c d s a' b' c' d' s'))]
    [_, _, _, _, _, _, _, ((bif chk a b c d s then (0 : Int) else 2) == (bif chk a b c d s then (0 : Int) else 2)) = true, _] (by kernel_rfl) ⟨h0, h1 0, h2 0, h3 0, h4 0, h5 0, h6 0, (beq_self_eq_true _), h7 0 (SC a b c d s a' b' c' d' s')⟩ rfl (.bool _)
theorem sc_nn (a b c d s : Int) (t : ByteArray) (h0 : decide ((t.size : Int) > 300) = false) (h1 : (∀ k σ, (envT tC).ov 14 [cfg a b c d s] k σ = some (.tuple #[.int .i64 0, .int .i64 0, .int .i64 0, .int .i64 2], σ))) (h2 : (∀ k σ, (envT tC).ov 15 [cfg a b c d s] k σ = some (.tuple #[.int .i64 0, .int .i64 0, .int .i64 0, .int .i64 2], σ))) (h3 : (∀ k σ, (envT tC).ov 16 [cfg a b c d s] k σ = some (.tuple #[.string ⟨#[]⟩, .int .i64 2], σ))) (h4 : (∀ k σ, (envT tC).ov 17 [cfg a b c d s] k σ = some (.tuple #[.string ⟨#[]⟩, .int .i64 2], σ))) (h5 : (∀ k σ, (envT tC).ov 18 [.string t] k σ = some (e8, σ))) (h6 : (∀ k σ, (envT tC).ov 19 [.string t] k σ = some (e8, σ))) : Pure Tryz.prog 9 tabs 3 [cfg a b c d s, .string t] (.bool true) :=
  pureT tC_ok (n := 4000) (v := .bool true) [(5, .br false), (1, .ov (.tuple #[.int .i64 0, .int .i64 0, .int .i64 0, .int .i64 2])), (10, .ov (.tuple #[.int .i64 0, .int .i64 0, .int .i64 0, .int .i64 2])), (10, .ov (.tuple #[.string ⟨#[]⟩, .int .i64 2])), (6, .ov (.tuple #[.string ⟨#[]⟩, .int .i64 2])), (6, .ov e8), (7, .ov e8), (11, .br true)]
    [_, _, _, _, _, _, _, ((bif chk a b c d s then (0 : Int) else 2) == (bif chk a b c d s then (0 : Int) else 2)) = true] (by kernel_rfl) ⟨h0, h1 0, h2 0, h3 0, h4 0, h5 0, h6 0, (beq_self_eq_true _)⟩ rfl (.bool _)
theorem txtV_split (a b c d s : Int) (h : chk a b c d s = true) : ∃ T, txtV a b c d s = .tuple #[.string T, .int .i64 0] := by
  unfold txtV
  rw [h]
  exact ⟨_, rfl⟩
theorem law3 (a b c d s : Int) (s0 : 0 ≤ s) (s1 : s < 18446744073709551616) (t : ByteArray) : Pure Tryz.prog 9 tabs 3 [cfg a b c d s, .string t] (.bool true) := by
  by_cases ht : (t.size : Int) > 300
  · exact sc_big a b c d s t (decide_eq_true ht)
  have c0 : decide ((t.size : Int) > 300) = false := decide_eq_false ht
  have a1 := ovC_14 a b c d s
  have a2 := ovC_15 a b c d s
  have a3 := ovC_16 a b c d s s0 s1
  have a4 := ovC_17 a b c d s s0 s1
  have a5 := ovC_18 t (by omega)
  have a6 := ovC_19 t (by omega)
  cases hc : chk a b c d s with
  | true =>
    obtain ⟨T, hT⟩ := txtV_split a b c d s hc
    rw [hT] at a3 a4
    unfold layV at a1 a2
    rw [hc] at a1 a2
    rcases par_spec t with h' | ⟨a', b', c', d', s', h', _⟩ <;> rw [h'] at a5 a6
    · exact sc_yn a b c d s _ _ t T c0 a1 a2 a3 a4 a5 a6
    · exact sc_yy a b c d s _ _ a' b' c' d' s' t T c0 a1 a2 a3 a4 a5 a6 (fun k σ => by rw [eqCfg]; simp)
  | false =>
    unfold txtV at a3 a4
    rw [hc] at a3 a4
    unfold layV at a1 a2
    rw [hc] at a1 a2
    rcases par_spec t with h' | ⟨a', b', c', d', s', h', _⟩ <;> rw [h'] at a5 a6
    · exact sc_nn a b c d s t c0 a1 a2 a3 a4 a5 a6
    · exact sc_ny a b c d s a' b' c' d' s' t c0 a1 a2 a3 a4 a5 a6 (fun k σ => by rw [eqCfg]; simp)
theorem law3' (a b c d s : Int) (t : ByteArray) (_ : -9223372036854775808 ≤ a) (_ : a ≤ 9223372036854775807) (_ : -9223372036854775808 ≤ b) (_ : b ≤ 9223372036854775807) (_ : -9223372036854775808 ≤ c) (_ : c ≤ 9223372036854775807) (_ : -9223372036854775808 ≤ d) (_ : d ≤ 9223372036854775807) (h0 : 0 ≤ s) (h1 : s ≤ 18446744073709551615) : Pure Tryz.prog 9 tabs 3 [cfg a b c d s, .string t] (.bool true) := law3 a b c d s h0 (by omega) t

end Go.Proofs.YtcjjlajpbakaoaaGreatDoor
