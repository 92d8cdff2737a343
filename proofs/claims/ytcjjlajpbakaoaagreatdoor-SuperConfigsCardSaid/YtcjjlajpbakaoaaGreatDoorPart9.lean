/-
  The functions that the statement reaches: what they answer, part 9.
-/
import Derived.Test.YtcjjlajpbakaoaaGreatDoorD36bp
import Derived.Test.YtcjjlajpbakaoaaGreatDoorD36bq
import Derived.Test.YtcjjlajpbakaoaaGreatDoorD36bi

/-
  SUPERBLOCK (chapter 36): the document's digits.
-/
namespace Go.Proofs.YtcjjlajpbakaoaaGreatDoor
open Go.Va

def k47 (N : Nat) : List Value → Option Value
  | [.int .u64 n] => bif decide (0 ≤ n) && decide (n < N) then some (.string (decS n.toNat)) else none
  | _ => none
def tD (N : Nat) : Ktab := (47, k47 N) :: []
theorem dg_big (n : Int) (N : Nat) (T1 T2 : ByteArray) (hl : TOk Tryz.prog 9 tabs (tD N)) (h0 : decide (n > 9) = true) (q : Value.int .u64 (IntKind.u64.wrap (n.tdiv 10)) = .int .u64 (n / 10)) (a1 : ∀ σ, (envT (tD N)).ov 47 [.int .u64 (n / 10)] 0 σ = some (.string T1, σ))
    (r : Value.int .u64 (n.tmod 10) = .int .u64 (n % 10)) (a2 : ∀ σ, (envT (tD N)).ov 47 [.int .u64 (n % 10)] 0 σ = some (.string T2, σ)) (sz : ((T1.size + T2.size : Nat) : Int) ≤ IntKind.i64.max) : Pure Tryz.prog 9 tabs 47 [.int .u64 n] (.string (T1 ++ T2)) :=
  pureT hl (n := 1000) (v := .string (T1 ++ T2)) [(3, .br true), (1, .eq (.int .u64 (n / 10))), (0, .ov (.string T1)), (1, .eq (.int .u64 (n % 10))), (0, .ov (.string T2)), (0, .ok)] [_, _, _, _, _, _] (by kernel_rfl) ⟨h0, q, a1, r, a2, sz⟩ rfl (.string _)
theorem t0_ok : TOk Tryz.prog 9 tabs [] := trivial
theorem decS_small (n : Nat) (h : n < 10) : decS n = ⟨#[UInt8.ofNat (48 + n)]⟩ := by
  unfold decS
  rw [dig_step, if_pos h]
theorem dg_small (n : Nat) (h : n < 10) : Pure Tryz.prog 9 tabs 47 [.int .u64 n] (.string (decS n)) := by
  rw [decS_small n h]
  match n, h with
  | 0, _ => exact pureT t0_ok (n := 1000) (v := .string ⟨#[UInt8.ofNat (48 + 0)]⟩) [] [] (by kernel_rfl) trivial rfl (.string _)
  | 1, _ => exact pureT t0_ok (n := 1000) (v := .string ⟨#[UInt8.ofNat (48 + 1)]⟩) [] [] (by kernel_rfl) trivial rfl (.string _)
  | 2, _ => exact pureT t0_ok (n := 1000) (v := .string ⟨#[UInt8.ofNat (48 + 2)]⟩) [] [] (by kernel_rfl) trivial rfl (.string _)
  | 3, _ => exact pureT t0_ok (n := 1000) (v := .string ⟨#[UInt8.ofNat (48 + 3)]⟩) [] [] (by kernel_rfl) trivial rfl (.string _)
  | 4, _ => exact pureT t0_ok (n := 1000) (v := .string ⟨#[UInt8.ofNat (48 + 4)]⟩) [] [] (by kernel_rfl) trivial rfl (.string _)
  | 5, _ => exact pureT t0_ok (n := 1000) (v := .string ⟨#[UInt8.ofNat (48 + 5)]⟩) [] [] (by kernel_rfl) trivial rfl (.string _)
  | 6, _ => exact pureT t0_ok (n := 1000) (v := .string ⟨#[UInt8.ofNat (48 + 6)]⟩) [] [] (by kernel_rfl) trivial rfl (.string _)
  | 7, _ => exact pureT t0_ok (n := 1000) (v := .string ⟨#[UInt8.ofNat (48 + 7)]⟩) [] [] (by kernel_rfl) trivial rfl (.string _)
  | 8, _ => exact pureT t0_ok (n := 1000) (v := .string ⟨#[UInt8.ofNat (48 + 8)]⟩) [] [] (by kernel_rfl) trivial rfl (.string _)
  | 9, _ => exact pureT t0_ok (n := 1000) (v := .string ⟨#[UInt8.ofNat (48 + 9)]⟩) [] [] (by kernel_rfl) trivial rfl (.string _)
theorem dec_app2 (n : Nat) (h : 9 < n) : decS (n / 10) ++ decS (n % 10) = decS n := by
  rw [decS_small (n % 10) (Nat.mod_lt _ (by omega))]
  refine ba_ext ?_
  rw [decS_data, ByteArray.data_append, Array.toList_append, decS_data, dig_step n, if_neg (by omega)]
theorem decS_size (n : Nat) (h : n < 18446744073709551616) : (decS n).size ≤ 20 := by
  have := dec_len n h
  unfold decS
  show (Lib.decDigits n).toArray.size ≤ 20
  rw [List.size_toArray]
  exact this
theorem ov47 (N n : Nat) (h : n < N) (lim : Nat) (σ : AS) : (envT (tD N)).ov 47 [.int .u64 (n : Int)] lim σ = some (.string (decS n), σ) := by
  refine envK rfl rfl (show _ = [Value.int .u64 (n : Int)] from rfl) rfl ?_
  unfold tD
  rw [pfT_eq]
  unfold k47
  dsimp only
  rw [decide_eq_true (show 0 ≤ (n : Int) by omega), decide_eq_true (show (n : Int) < (N : Int) by omega), Int.toNat_natCast]
  rfl
/-- The document's digits. -/
theorem p47 (n : Nat) (hn : n < 18446744073709551616) : Pure Tryz.prog 9 tabs 47 [.int .u64 n] (.string (decS n)) := by
  induction n using Nat.strongRecOn with
  | ind n ih =>
    by_cases h : n < 10
    · exact dg_small n h
    · have hk : KOk Tryz.prog 9 tabs 47 (k47 n) := by
        intro args v hv
        unfold k47 at hv
        split at hv
        · rename_i m
          cases hb : decide (0 ≤ m) && decide (m < (n : Int)) with
          | false => rw [hb] at hv; cases hv
          | true =>
            rw [hb, cond_true] at hv
            cases hv
            simp only [Bool.and_eq_true, decide_eq_true_eq] at hb
            have := ih m.toNat (by omega) (by omega)
            rw [Int.toNat_of_nonneg hb.1] at this
            exact this
        · cases hv
      have hl : TOk Tryz.prog 9 tabs (tD n) := ⟨hk, trivial⟩
      have h1 := decS_size (n / 10) (by omega)
      have h2 := decS_size (n % 10) (by omega)
      have hm : IntKind.i64.max = 9223372036854775807 := rfl
      rw [← dec_app2 n (by omega)]
      have q1 : (n : Int) / 10 = ((n / 10 : Nat) : Int) := by omega
      have q2 : (n : Int) % 10 = ((n % 10 : Nat) : Int) := by omega
      refine dg_big n n (decS (n / 10)) (decS (n % 10)) hl (decide_eq_true (by omega)) ?_ (by rw [q1]; exact ov47 n (n / 10) (by omega) 0) ?_ (by rw [q2]; exact ov47 n (n % 10) (by omega) 0) (by omega)
      · rw [Int.tdiv_eq_ediv_of_nonneg (by omega), q1, wrapU (by omega)]
      · rw [Int.tmod_eq_emod_of_nonneg (by omega)]
def k47' : List Value → Option Value
  | [.int .u64 n] => bif decide (0 ≤ n) && decide (n < 18446744073709551616) then some (.string (decS n.toNat)) else none
  | _ => none
theorem k47_ok : KOk Tryz.prog 9 tabs 47 k47' := by
  intro args v hv
  unfold k47' at hv
  split at hv
  · rename_i m
    cases hb : decide (0 ≤ m) && decide (m < (18446744073709551616 : Int)) with
    | false => rw [hb] at hv; cases hv
    | true =>
      rw [hb, cond_true] at hv
      cases hv
      simp only [Bool.and_eq_true, decide_eq_true_eq] at hb
      have := p47 m.toNat (by omega)
      rw [Int.toNat_of_nonneg hb.1] at this
      exact this
  · cases hv

end Go.Proofs.YtcjjlajpbakaoaaGreatDoor

/-
  SUPERBLOCK (chapter 36): the document's Layout and Text.
-/
namespace Go.Proofs.YtcjjlajpbakaoaaGreatDoor
open Go.Va

def bs3 (A B C W : ByteArray) : ByteArray := A ++ ⟨#[32]⟩ ++ B ++ ⟨#[32]⟩ ++ C ++ W
def bs4 (A B C W S : ByteArray) : ByteArray := A ++ ⟨#[32]⟩ ++ B ++ ⟨#[32]⟩ ++ C ++ W ++ S
def tX17 : Ktab := (47, k47') :: (21, k20) :: []
theorem tX17_ok : TOk Tryz.prog 9 tabs tX17 := ⟨k47_ok, k21_ok, trivial⟩
theorem txt17_no (a b c d s : Int) (h : ((bif chk a b c d s then (0 : Int) else 2) != 0) = true) : Pure Tryz.prog 9 tabs 17 [cfg a b c d s] (.tuple #[.string ⟨#[]⟩, .int .i64 2]) :=
  pureT tX17_ok (n := 1000) (v := .tuple #[.string ⟨#[]⟩, .int .i64 2]) [(6, .br true)] [((bif chk a b c d s then (0 : Int) else 2) != 0) = true] (by kernel_rfl) h rfl (plain_PF 100 _ rfl)
theorem strip_si (T : ByteArray) (n : Int) : strip (.tuple #[.string T, .int .i64 n]) = .tuple #[.string T, .int .i64 n] := rfl
theorem PF_si (T : ByteArray) (n : Int) : PF (.tuple #[.string T, .int .i64 n]) := plain_PF 100 _ rfl
theorem txt17_std (a b c d s : Int) (A B C : ByteArray) (h : ((bif chk a b c d s then (0 : Int) else 2) != 0) = false) (wa : Value.int .u64 (IntKind.u64.wrap a) = .int .u64 a) (oa : ∀ σ, (envT tX17).ov 47 [.int .u64 a] 10 σ = some (.string A, σ)) (y1 : ((A.size + (⟨#[32]⟩ : ByteArray).size : Nat) : Int) ≤ IntKind.i64.max) (wb : Value.int .u64 (IntKind.u64.wrap b) = .int .u64 b) (ob : ∀ σ, (envT tX17).ov 47 [.int .u64 b] 10 σ = some (.string B, σ)) (y2 : (((A ++ ⟨#[32]⟩).size + B.size : Nat) : Int) ≤ IntKind.i64.max) (y3 : (((A ++ ⟨#[32]⟩ ++ B).size + (⟨#[32]⟩ : ByteArray).size : Nat) : Int) ≤ IntKind.i64.max) (wc : Value.int .u64 (IntKind.u64.wrap c) = .int .u64 c) (oc : ∀ σ, (envT tX17).ov 47 [.int .u64 c] 10 σ = some (.string C, σ)) (y4 : (((A ++ ⟨#[32]⟩ ++ B ++ ⟨#[32]⟩).size + C.size : Nat) : Int) ≤ IntKind.i64.max) (d0 : (d == 0) = true) (y5 : (((A ++ ⟨#[32]⟩ ++ B ++ ⟨#[32]⟩ ++ C).size + (⟨#[32, 115, 116, 97, 110, 100, 97, 114, 100]⟩ : ByteArray).size : Nat) : Int) ≤ IntKind.i64.max) : Pure Tryz.prog 9 tabs 17 [cfg a b c d s] (.tuple #[.string (bs3 A B C ⟨#[32, 115, 116, 97, 110, 100, 97, 114, 100]⟩), .int .i64 0]) :=
  pureT tX17_ok (n := 1000) (v := .tuple #[.string (bs3 A B C ⟨#[32, 115, 116, 97, 110, 100, 97, 114, 100]⟩), .int .i64 0]) [(6, .br false), (2, .eq (.int .u64 a)), (0, .ov (.string A)), (0, .ok), (2, .eq (.int .u64 b)), (0, .ov (.string B)), (0, .ok), (0, .ok), (2, .eq (.int .u64 c)), (0, .ov (.string C)), (0, .ok), (5, .br true), (1, .ok)] [_, _, _, _, _, _, _, _, _, _, _, _, _] (by kernel_rfl) ⟨h, wa, oa, y1, wb, ob, y2, y3, wc, oc, y4, d0, y5⟩ (strip_si _ _) (PF_si _ _)
theorem txt17_zero (a b c d s : Int) (A B C : ByteArray) (h : ((bif chk a b c d s then (0 : Int) else 2) != 0) = false) (wa : Value.int .u64 (IntKind.u64.wrap a) = .int .u64 a) (oa : ∀ σ, (envT tX17).ov 47 [.int .u64 a] 10 σ = some (.string A, σ)) (y1 : ((A.size + (⟨#[32]⟩ : ByteArray).size : Nat) : Int) ≤ IntKind.i64.max) (wb : Value.int .u64 (IntKind.u64.wrap b) = .int .u64 b) (ob : ∀ σ, (envT tX17).ov 47 [.int .u64 b] 10 σ = some (.string B, σ)) (y2 : (((A ++ ⟨#[32]⟩).size + B.size : Nat) : Int) ≤ IntKind.i64.max) (y3 : (((A ++ ⟨#[32]⟩ ++ B).size + (⟨#[32]⟩ : ByteArray).size : Nat) : Int) ≤ IntKind.i64.max) (wc : Value.int .u64 (IntKind.u64.wrap c) = .int .u64 c) (oc : ∀ σ, (envT tX17).ov 47 [.int .u64 c] 10 σ = some (.string C, σ)) (y4 : (((A ++ ⟨#[32]⟩ ++ B ++ ⟨#[32]⟩).size + C.size : Nat) : Int) ≤ IntKind.i64.max) (d0 : (d == 0) = false) (d1 : (d == 1) = true) (y5 : (((A ++ ⟨#[32]⟩ ++ B ++ ⟨#[32]⟩ ++ C).size + (⟨#[32, 122, 101, 114, 111]⟩ : ByteArray).size : Nat) : Int) ≤ IntKind.i64.max) : Pure Tryz.prog 9 tabs 17 [cfg a b c d s] (.tuple #[.string (bs3 A B C ⟨#[32, 122, 101, 114, 111]⟩), .int .i64 0]) :=
  pureT tX17_ok (n := 1000) (v := .tuple #[.string (bs3 A B C ⟨#[32, 122, 101, 114, 111]⟩), .int .i64 0]) [(6, .br false), (2, .eq (.int .u64 a)), (0, .ov (.string A)), (0, .ok), (2, .eq (.int .u64 b)), (0, .ov (.string B)), (0, .ok), (0, .ok), (2, .eq (.int .u64 c)), (0, .ov (.string C)), (0, .ok), (5, .br false), (2, .br true), (1, .ok)] [_, _, _, _, _, _, _, _, _, _, _, _, _, _] (by kernel_rfl) ⟨h, wa, oa, y1, wb, ob, y2, y3, wc, oc, y4, d0, d1, y5⟩ (strip_si _ _) (PF_si _ _)
theorem txt17_seed (a b c d s : Int) (A B C S : ByteArray) (h : ((bif chk a b c d s then (0 : Int) else 2) != 0) = false) (wa : Value.int .u64 (IntKind.u64.wrap a) = .int .u64 a) (oa : ∀ σ, (envT tX17).ov 47 [.int .u64 a] 10 σ = some (.string A, σ)) (y1 : ((A.size + (⟨#[32]⟩ : ByteArray).size : Nat) : Int) ≤ IntKind.i64.max) (wb : Value.int .u64 (IntKind.u64.wrap b) = .int .u64 b) (ob : ∀ σ, (envT tX17).ov 47 [.int .u64 b] 10 σ = some (.string B, σ)) (y2 : (((A ++ ⟨#[32]⟩).size + B.size : Nat) : Int) ≤ IntKind.i64.max) (y3 : (((A ++ ⟨#[32]⟩ ++ B).size + (⟨#[32]⟩ : ByteArray).size : Nat) : Int) ≤ IntKind.i64.max) (wc : Value.int .u64 (IntKind.u64.wrap c) = .int .u64 c) (oc : ∀ σ, (envT tX17).ov 47 [.int .u64 c] 10 σ = some (.string C, σ)) (y4 : (((A ++ ⟨#[32]⟩ ++ B ++ ⟨#[32]⟩).size + C.size : Nat) : Int) ≤ IntKind.i64.max) (d0 : (d == 0) = false) (d1 : (d == 1) = false) (y5 : (((A ++ ⟨#[32]⟩ ++ B ++ ⟨#[32]⟩ ++ C).size + (⟨#[32, 115, 101, 101, 100, 101, 100, 32]⟩ : ByteArray).size : Nat) : Int) ≤ IntKind.i64.max) (os : ∀ σ, (envT tX17).ov 47 [.int .u64 s] 0 σ = some (.string S, σ)) (y6 : ((((A ++ ⟨#[32]⟩ ++ B ++ ⟨#[32]⟩ ++ C) ++ ⟨#[32, 115, 101, 101, 100, 101, 100, 32]⟩).size + S.size : Nat) : Int) ≤ IntKind.i64.max) : Pure Tryz.prog 9 tabs 17 [cfg a b c d s] (.tuple #[.string (bs4 A B C ⟨#[32, 115, 101, 101, 100, 101, 100, 32]⟩ S), .int .i64 0]) :=
  pureT tX17_ok (n := 1000) (v := .tuple #[.string (bs4 A B C ⟨#[32, 115, 101, 101, 100, 101, 100, 32]⟩ S), .int .i64 0]) [(6, .br false), (2, .eq (.int .u64 a)), (0, .ov (.string A)), (0, .ok), (2, .eq (.int .u64 b)), (0, .ov (.string B)), (0, .ok), (0, .ok), (2, .eq (.int .u64 c)), (0, .ov (.string C)), (0, .ok), (5, .br false), (2, .br false), (1, .ok), (2, .ov (.string S)), (0, .ok)] [_, _, _, _, _, _, _, _, _, _, _, _, _, _, _, _] (by kernel_rfl) ⟨h, wa, oa, y1, wb, ob, y2, y3, wc, oc, y4, d0, d1, y5, os, y6⟩ (strip_si _ _) (PF_si _ _)
theorem ovX17_47 (n : Nat) (h : n < 18446744073709551616) (lim : Nat) (σ : AS) : (envT tX17).ov 47 [.int .u64 (n : Int)] lim σ = some (.string (decS n), σ) := by
  refine envK rfl rfl (show _ = [Value.int .u64 (n : Int)] from rfl) rfl ?_
  unfold tX17
  rw [pfT_eq]
  unfold k47'
  dsimp only
  rw [decide_eq_true (show 0 ≤ (n : Int) by omega), decide_eq_true (show (n : Int) < 18446744073709551616 by omega), Int.toNat_natCast]
  rfl
theorem app_data (s t : ByteArray) : (s ++ t).data.toList = s.data.toList ++ t.data.toList := by rw [ByteArray.data_append, Array.toList_append]
theorem app_size (s t : ByteArray) : (s ++ t).size = s.size + t.size := by
  have := congrArg List.length (app_data s t)
  rw [List.length_append] at this
  exact this
theorem join_data (l : List ByteArray) (s : ByteArray) : (joinS l s).data.toList = Lib.join (l.map (·.data.toList)) s.data.toList := by unfold joinS; simp
theorem text_std (a b c s : Nat) : bs3 (decS a) (decS b) (decS c) ⟨#[32, 115, 116, 97, 110, 100, 97, 114, 100]⟩ = textS a b c 0 s := by
  refine ba_ext ?_
  unfold textS bs3
  rw [join_data, app_data, app_data, app_data, app_data, app_data]
  show _ = Lib.join [(decS a).data.toList, (decS b).data.toList, (decS c).data.toList, [115, 116, 97, 110, 100, 97, 114, 100]] [32]
  rw [Lib.join_cons]
  unfold Lib.joinTail
  simp only [List.map_cons, List.map_nil, List.flatten_cons, List.flatten_nil, List.append_assoc, List.append_nil, List.cons_append, List.nil_append]
theorem text_zero (a b c s : Nat) : bs3 (decS a) (decS b) (decS c) ⟨#[32, 122, 101, 114, 111]⟩ = textS a b c 1 s := by
  refine ba_ext ?_
  unfold textS bs3
  rw [join_data, app_data, app_data, app_data, app_data, app_data]
  show _ = Lib.join [(decS a).data.toList, (decS b).data.toList, (decS c).data.toList, [122, 101, 114, 111]] [32]
  rw [Lib.join_cons]
  unfold Lib.joinTail
  simp only [List.map_cons, List.map_nil, List.flatten_cons, List.flatten_nil, List.append_assoc, List.append_nil, List.cons_append, List.nil_append]
theorem text_seed (a b c s : Nat) : bs4 (decS a) (decS b) (decS c) ⟨#[32, 115, 101, 101, 100, 101, 100, 32]⟩ (decS s) = textS a b c 2 s := by
  refine ba_ext ?_
  unfold textS bs4
  rw [join_data, app_data, app_data, app_data, app_data, app_data, app_data]
  show _ = Lib.join [(decS a).data.toList, (decS b).data.toList, (decS c).data.toList, [115, 101, 101, 100, 101, 100], (decS s).data.toList] [32]
  rw [Lib.join_cons]
  unfold Lib.joinTail
  simp only [List.map_cons, List.map_nil, List.flatten_cons, List.flatten_nil, List.append_assoc, List.append_nil, List.cons_append, List.nil_append]
/-- The document's Text. -/
theorem p17 (a b c d s : Int) (s0 : 0 ≤ s) (s1 : s < 18446744073709551616) : Pure Tryz.prog 9 tabs 17 [cfg a b c d s] (txtV a b c d s) := by
  unfold txtV
  cases h : chk a b c d s with
  | false => exact txt17_no a b c d s (by rw [h]; rfl)
  | true =>
    obtain ⟨k1, k2, k3, k4, k5, k6, k7, k8, k9⟩ := chk_spec h
    obtain ⟨a, rfl⟩ := Int.eq_ofNat_of_zero_le (show 0 ≤ a by omega)
    obtain ⟨b, rfl⟩ := Int.eq_ofNat_of_zero_le (show 0 ≤ b by omega)
    obtain ⟨c, rfl⟩ := Int.eq_ofNat_of_zero_le (show 0 ≤ c by omega)
    obtain ⟨d, rfl⟩ := Int.eq_ofNat_of_zero_le (show 0 ≤ d by omega)
    obtain ⟨s, rfl⟩ := Int.eq_ofNat_of_zero_le s0
    simp only [Int.toNat_natCast, cond_true]
    have hA := decS_size a (by omega)
    have hB := decS_size b (by omega)
    have hC := decS_size c (by omega)
    have hS := decS_size s (by omega)
    have hm : IntKind.i64.max = 9223372036854775807 := rfl
    have z1 : (⟨#[32]⟩ : ByteArray).size = 1 := rfl
    have z2 : (⟨#[32, 115, 116, 97, 110, 100, 97, 114, 100]⟩ : ByteArray).size = 9 := rfl
    have z3 : (⟨#[32, 122, 101, 114, 111]⟩ : ByteArray).size = 5 := rfl
    have z4 : (⟨#[32, 115, 101, 101, 100, 101, 100, 32]⟩ : ByteArray).size = 8 := rfl
    have hh : ((bif chk a b c d s then (0 : Int) else 2) != 0) = false := by rw [h]; rfl
    have Z : ∀ v : Nat, v < 5000 → Value.int .u64 (IntKind.u64.wrap v) = .int .u64 v := fun v hv => by rw [wrapU (by omega)]
    match d, k8 with
    | 0, _ =>
      rw [← text_std a b c s]
      exact txt17_std a b c _ s (decS a) (decS b) (decS c) hh (Z a (by omega)) (ovX17_47 a (by omega) 10) (by rw [z1]; omega) (Z b (by omega)) (ovX17_47 b (by omega) 10) (by rw [app_size, z1]; omega) (by rw [app_size, app_size, z1]; omega) (Z c (by omega)) (ovX17_47 c (by omega) 10) (by rw [app_size, app_size, app_size, z1]; omega) rfl
        (by rw [app_size, app_size, app_size, app_size, z1, z2]; omega)
    | 1, _ =>
      rw [← text_zero a b c s]
      exact txt17_zero a b c _ s (decS a) (decS b) (decS c) hh (Z a (by omega)) (ovX17_47 a (by omega) 10) (by rw [z1]; omega) (Z b (by omega)) (ovX17_47 b (by omega) 10) (by rw [app_size, z1]; omega) (by rw [app_size, app_size, z1]; omega) (Z c (by omega)) (ovX17_47 c (by omega) 10) (by rw [app_size, app_size, app_size, z1]; omega) rfl rfl
        (by rw [app_size, app_size, app_size, app_size, z1, z3]; omega)
    | 2, _ =>
      rw [← text_seed a b c s]
      exact txt17_seed a b c _ s (decS a) (decS b) (decS c) (decS s) hh (Z a (by omega)) (ovX17_47 a (by omega) 10) (by rw [z1]; omega) (Z b (by omega)) (ovX17_47 b (by omega) 10) (by rw [app_size, z1]; omega) (by rw [app_size, app_size, z1]; omega) (Z c (by omega)) (ovX17_47 c (by omega) 10) (by rw [app_size, app_size, app_size, z1]; omega) rfl rfl
        (by rw [app_size, app_size, app_size, app_size, z1, z4]; omega) (ovX17_47 s (by omega) 0) (by rw [app_size, app_size, app_size, app_size, app_size, z1, z4]; omega)
    | n + 3, h3 => exact absurd h3 (by omega)
theorem k17_ok : KOk Tryz.prog 9 tabs 17 k16 := by
  intro args v h
  unfold k16 at h
  split at h
  · rename_i a b c d s
    cases hb : decide (0 ≤ s) && decide (s < 18446744073709551616) with
    | false => rw [hb] at h; cases h
    | true =>
      rw [hb, cond_true] at h
      cases h
      simp only [Bool.and_eq_true, decide_eq_true_eq] at hb
      exact p17 a b c d s hb.1 hb.2
  · cases h

/-! ## Layout -/

theorem PF_4 (x y z w : Int) : PF (.tuple #[.int .i64 x, .int .i64 y, .int .i64 z, .int .i64 w]) := plain_PF 100 _ rfl
theorem p15_no (a b c d s : Int) (h : ((bif chk a b c d s then (0 : Int) else 2) != 0) = true) : Pure Tryz.prog 9 tabs 15 [cfg a b c d s] (.tuple #[.int .i64 0, .int .i64 0, .int .i64 0, .int .i64 2]) :=
  pureT tX17_ok (n := 1000) (v := .tuple #[.int .i64 0, .int .i64 0, .int .i64 0, .int .i64 2]) [(8, .br true)] [_] (by kernel_rfl) h rfl (PF_4 _ _ _ _)
theorem p15_yes (a b c d s : Int) (h : ((bif chk a b c d s then (0 : Int) else 2) != 0) = false) : Pure Tryz.prog 9 tabs 15 [cfg a b c d s] (.tuple #[.int .i64 2, .int .i64 (IntKind.i64.wrap (2 + b)), .int .i64 (IntKind.i64.wrap ((IntKind.i64.wrap (IntKind.i64.wrap (a - 2) - b)).tdiv 4)), .int .i64 0]) :=
  pureT tX17_ok (n := 1000) (v := .tuple #[.int .i64 2, .int .i64 (IntKind.i64.wrap (2 + b)), .int .i64 (IntKind.i64.wrap ((IntKind.i64.wrap (IntKind.i64.wrap (a - 2) - b)).tdiv 4)), .int .i64 0]) [(8, .br false)] [_] (by kernel_rfl) h rfl (PF_4 _ _ _ _)
def layV (a b c d s : Int) : Value := bif chk a b c d s then .tuple #[.int .i64 2, .int .i64 (IntKind.i64.wrap (2 + b)), .int .i64 (IntKind.i64.wrap ((IntKind.i64.wrap (a - IntKind.i64.wrap (2 + b))).tdiv 4)), .int .i64 0] else .tuple #[.int .i64 0, .int .i64 0, .int .i64 0, .int .i64 2]
theorem p15 (a b c d s : Int) : Pure Tryz.prog 9 tabs 15 [cfg a b c d s] (layV a b c d s) := by
  unfold layV
  cases h : chk a b c d s with
  | false => exact p15_no a b c d s (by rw [h]; rfl)
  | true =>
    obtain ⟨k1, k2, k3, k4, _⟩ := chk_spec h
    have := p15_yes a b c d s (by rw [h]; rfl)
    rw [wrap64 (n := a - 2) (by omega) (by omega), show a - 2 - b = a - (2 + b) by omega, ← wrap64 (n := 2 + b) (by omega) (by omega), wrap64 (n := IntKind.i64.wrap (2 + b)) (by rw [wrap64 (by omega) (by omega)]; omega) (by rw [wrap64 (by omega) (by omega)]; omega)] at this
    exact this
def k15 : List Value → Option Value
  | [.agg ⟨[.int .i64 a, .int .i64 b, .int .i64 c, .int .i64 d, .int .u64 s]⟩] => some (layV a b c d s)
  | _ => none
theorem k15_ok : KOk Tryz.prog 9 tabs 15 k15 := by
  intro args v h
  unfold k15 at h
  split at h
  · cases h; exact p15 _ _ _ _ _
  · cases h

end Go.Proofs.YtcjjlajpbakaoaaGreatDoor

/-
  SUPERBLOCK (chapter 36): the document's number and small.
-/
namespace Go.Proofs.YtcjjlajpbakaoaaGreatDoor
open Go.Va

def stp (n : Int) (c : UInt8) : Int := IntKind.u64.wrap (IntKind.u64.wrap (10 * n) + IntKind.u64.wrap (IntKind.u8.wrap ((c.toNat : Int) - 48)))
def numL : Nat → Int → List UInt8 → Int
  | 0, n, _ => n
  | _ + 1, n, [] => n
  | k + 1, n, c :: r => bif (decide ((c.toNat : Int) < 48) || decide ((c.toNat : Int) > 57)) then 0 else numL k (stp n c) r
def numV (s : ByteArray) : Int := numL 20 0 s.data.toList

noncomputable def body53 : Code := codeOf Tryz.prog 53 [.r, .r, .l, .r, .b, .b]
def T53 (s : ByteArray) (n i : Int) (w : Nat → Value) : List Value := fillT 34 [(0, .string s), (3, .int .u64 n), (4, .int .i64 i)] w
def chr (s : ByteArray) (i : Int) : UInt8 := s.data.toList.getD i.toNat 0
theorem next53 (s : ByteArray) (n i : Int) (w : Nat → Value) (h1 : decide (i < (s.size : Int)) = true) (h2 : decide (i < 20) = true) (h3 : 0 ≤ i ∧ i < (s.size : Int)) (h4 : decide (((chr s i).toNat : Int) < 48) = false) (h5 : decide (((chr s i).toNat : Int) > 57) = false) :
    ∃ w', runW Tryz.prog (envT []) 0 (.code ⟨53, none⟩ body53 (T53 s n i w) []) (base0 9 tabs) = some (.done .normal (T53 s (stp n (chr s i)) (IntKind.i64.wrap (i + 1)) w') [], base0 9 tabs) :=
  seg 300 [(4, .br true), (3, .br true), (2, .ok), (1, .br false), (2, .ok), (2, .br false), (4, .ok)] (m := 34) (js := [0, 3, 4]) (vs := [.string s, .int .u64 (stp n (chr s i)), .int .i64 (IntKind.i64.wrap (i + 1))])
    (ob := [_, _, _, _, _, _, _]) (by kernel_rfl) ⟨h1, h2, h3, h4, h3, h5, h3⟩
theorem lo53 (s : ByteArray) (n i : Int) (w : Nat → Value) (h1 : decide (i < (s.size : Int)) = true) (h2 : decide (i < 20) = true) (h3 : 0 ≤ i ∧ i < (s.size : Int)) (h4 : decide (((chr s i).toNat : Int) < 48) = true) :
    ∃ w', runW Tryz.prog (envT []) 0 (.code ⟨53, none⟩ body53 (T53 s n i w) []) (base0 9 tabs) = some (.done .ret (fillT 34 [(2, .int .u64 0)] w') [], base0 9 tabs) :=
  seg 300 [(4, .br true), (3, .br true), (2, .ok), (1, .br true)] (m := 34) (js := [2]) (vs := [.int .u64 0])
    (ob := [_, _, _, _]) (by kernel_rfl) ⟨h1, h2, h3, h4⟩
theorem hi53 (s : ByteArray) (n i : Int) (w : Nat → Value) (h1 : decide (i < (s.size : Int)) = true) (h2 : decide (i < 20) = true) (h3 : 0 ≤ i ∧ i < (s.size : Int)) (h4 : decide (((chr s i).toNat : Int) < 48) = false) (h5 : decide (((chr s i).toNat : Int) > 57) = true) :
    ∃ w', runW Tryz.prog (envT []) 0 (.code ⟨53, none⟩ body53 (T53 s n i w) []) (base0 9 tabs) = some (.done .ret (fillT 34 [(2, .int .u64 0)] w') [], base0 9 tabs) :=
  seg 300 [(4, .br true), (3, .br true), (2, .ok), (1, .br false), (2, .ok), (2, .br true)] (m := 34) (js := [2]) (vs := [.int .u64 0])
    (ob := [_, _, _, _, _, _]) (by kernel_rfl) ⟨h1, h2, h3, h4, h3, h5⟩
theorem end53 (s : ByteArray) (n i : Int) (w : Nat → Value) (h1 : decide (i < (s.size : Int)) = false) :
    ∃ w', runW Tryz.prog (envT []) 0 (.code ⟨53, none⟩ body53 (T53 s n i w) []) (base0 9 tabs) = some (.done (.exit 0) (fillT 34 [(3, .int .u64 n)] w') [], base0 9 tabs) :=
  seg 300 [(4, .br false)] (m := 34) (js := [3]) (vs := [.int .u64 n]) (ob := [decide (i < (s.size : Int)) = false]) (by kernel_rfl) h1
theorem end53' (s : ByteArray) (n i : Int) (w : Nat → Value) (h1 : decide (i < (s.size : Int)) = true) (h2 : decide (i < 20) = false) :
    ∃ w', runW Tryz.prog (envT []) 0 (.code ⟨53, none⟩ body53 (T53 s n i w) []) (base0 9 tabs) = some (.done (.exit 0) (fillT 34 [(3, .int .u64 n)] w') [], base0 9 tabs) :=
  seg 300 [(4, .br true), (3, .br false)] (m := 34) (js := [3]) (vs := [.int .u64 n]) (ob := [_, _]) (by kernel_rfl) ⟨h1, h2⟩
theorem size_len (s : ByteArray) : s.size = s.data.toList.length := rfl
theorem loop53 (s : ByteArray) : ∀ (k i : Nat) (n : Int) (w : Nat → Value), i + k = 20 →
    ∃ w', runW Tryz.prog (envT []) 0 (.code ⟨53, none⟩ (.loop body53) (T53 s n i w) []) (base0 9 tabs) = some (.done (.exit 0) (fillT 34 [(3, .int .u64 (numL k n (s.data.toList.drop i)))] w') [], base0 9 tabs) ∨
      (runW Tryz.prog (envT []) 0 (.code ⟨53, none⟩ (.loop body53) (T53 s n i w) []) (base0 9 tabs) = some (.done .ret (fillT 34 [(2, .int .u64 0)] w') [], base0 9 tabs) ∧ numL k n (s.data.toList.drop i) = 0) := by
  intro k
  induction k with
  | zero =>
    intro i n w hi
    by_cases h : i < s.size
    · obtain ⟨w', r⟩ := end53' s n i w (decide_eq_true (by omega)) (decide_eq_false (by omega))
      exact ⟨w', .inl (loop_out (by intro h; cases h) r)⟩
    · obtain ⟨w', r⟩ := end53 s n i w (decide_eq_false (by omega))
      exact ⟨w', .inl (loop_out (by intro h; cases h) r)⟩
  | succ k ih =>
    intro i n w hi
    by_cases h : i < s.size
    · have hl : i < s.data.toList.length := h
      have hc : chr s i = s.data.toList[i] := by
        unfold chr
        rw [Int.toNat_natCast, List.getD_eq_getElem?_getD, List.getElem?_eq_getElem hl]
        rfl
      have i1 : decide ((i : Int) < (s.size : Int)) = true := decide_eq_true (by omega)
      have i2 : decide ((i : Int) < 20) = true := decide_eq_true (by omega)
      have i3 : 0 ≤ (i : Int) ∧ (i : Int) < (s.size : Int) := ⟨by omega, by omega⟩
      rw [List.drop_eq_getElem_cons hl]
      unfold numL
      rw [← hc]
      cases c1 : decide (((chr s i).toNat : Int) < 48) with
      | true =>
        obtain ⟨w', r⟩ := lo53 s n i w i1 i2 i3 c1
        exact ⟨w', .inr ⟨loop_out (by intro h; cases h) r, rfl⟩⟩
      | false =>
        cases c2 : decide (((chr s i).toNat : Int) > 57) with
        | true =>
          obtain ⟨w', r⟩ := hi53 s n i w i1 i2 i3 c1 c2
          exact ⟨w', .inr ⟨loop_out (by intro h; cases h) r, rfl⟩⟩
        | false =>
          obtain ⟨w1, r⟩ := next53 s n i w i1 i2 i3 c1 c2
          rw [show IntKind.i64.wrap ((i : Int) + 1) = ((i + 1 : Nat) : Int) by rw [wrap64 (by omega) (by omega)]; rfl] at r
          obtain ⟨w', h | ⟨h, h'⟩⟩ := ih (i + 1) (stp n (chr s i)) w1 (by omega)
          · exact ⟨w', .inl (loop_next r h)⟩
          · exact ⟨w', .inr ⟨loop_next r h, h'⟩⟩
    · obtain ⟨w', r⟩ := end53 s n i w (decide_eq_false (by omega))
      rw [List.drop_of_length_le (show s.data.toList.length ≤ i by have := size_len s; omega)]
      exact ⟨w', .inl (loop_out (by intro h; cases h) r)⟩
/-- The document's number. -/
theorem p53 (s : ByteArray) : Pure Tryz.prog 9 tabs 53 [.string s] (.int .u64 (numV s)) := by
  obtain ⟨w', h | ⟨h, h'⟩⟩ := loop53 s 20 0 0 (fun j => Go.Va.look [(2, .int .u64 0)] j undef) rfl
  · exact pureT t0_ok (n := 300) (v := .int .u64 (numV s)) [(3, .skip (.done (.exit 0) (fillT 34 [(3, .int .u64 (numV s))] w') []) (base0 9 tabs))] [_] (by kernel_rfl) h rfl (.int _ _)
  · have : numV s = 0 := h'
    rw [this]
    exact pureT t0_ok (n := 300) (v := .int .u64 0) [(3, .skip (.done .ret (fillT 34 [(2, .int .u64 0)] w') []) (base0 9 tabs))] [_] (by kernel_rfl) h rfl (.int _ _)
def k53 : List Value → Option Value
  | [.string s] => some (.int .u64 (numV s))
  | _ => none
theorem k53_ok : KOk Tryz.prog 9 tabs 53 k53 := by
  intro args v h
  unfold k53 at h
  split at h
  · cases h; exact p53 _
  · cases h
def tX52 : Ktab := (53, k53) :: []
theorem tX52_ok : TOk Tryz.prog 9 tabs tX52 := ⟨k53_ok, trivial⟩
theorem wrap_range (z : Int) : 0 ≤ IntKind.u64.wrap z ∧ IntKind.u64.wrap z < 18446744073709551616 := by
  unfold IntKind.wrap
  rw [show IntKind.u64.signed = false from rfl, show IntKind.u64.bits = 64 from rfl]
  show 0 ≤ z % 18446744073709551616 ∧ z % 18446744073709551616 < 18446744073709551616
  omega
theorem numL_range : ∀ (k : Nat) (n : Int) (l : List UInt8), 0 ≤ n → n < 18446744073709551616 → 0 ≤ numL k n l ∧ numL k n l < 18446744073709551616
  | 0, n, _, h0, h1 => ⟨h0, h1⟩
  | _ + 1, n, [], h0, h1 => ⟨h0, h1⟩
  | k + 1, n, c :: r, h0, h1 => by
    unfold numL
    cases decide ((c.toNat : Int) < 48) || decide ((c.toNat : Int) > 57) with
    | true => exact ⟨by show (0 : Int) ≤ 0; omega, by show (0 : Int) < _; omega⟩
    | false => exact numL_range k (stp n c) r (wrap_range _).1 (wrap_range _).2
theorem numV_range (s : ByteArray) : 0 ≤ numV s ∧ numV s < 18446744073709551616 := numL_range 20 0 _ (by omega) (by omega)
def smV (s : ByteArray) : Int := bif decide (numV s > 65535) then 0 else numV s
theorem p52 (s : ByteArray) : Pure Tryz.prog 9 tabs 52 [.string s] (.int .i64 (smV s)) := by
  unfold smV
  obtain ⟨h0, h1⟩ := numV_range s
  cases h : decide (numV s > 65535) with
  | true => exact pureT tX52_ok (n := 300) (v := .int .i64 0) [(5, .br true)] [_] (by kernel_rfl) h rfl (.int _ _)
  | false =>
    have hw : IntKind.i64.wrap (numV s) = numV s := wrap64 (by omega) (by have := of_decide_eq_false h; omega)
    rw [cond_false, ← hw]
    exact pureT tX52_ok (n := 300) (v := .int .i64 (IntKind.i64.wrap (numV s))) [(5, .br false)] [_] (by kernel_rfl) h rfl (.int _ _)
def k52 : List Value → Option Value
  | [.string s] => some (.int .i64 (smV s))
  | _ => none
theorem k52_ok : KOk Tryz.prog 9 tabs 52 k52 := by
  intro args v h
  unfold k52 at h
  split at h
  · cases h; exact p52 _
  · cases h

/-! ## On digits -/

def digit (c : UInt8) : Prop := 48 ≤ c.toNat ∧ c.toNat ≤ 57
theorem numL_app (c : UInt8) (hc : digit c) : ∀ (k : Nat) (n : Int) (l : List UInt8), (∀ b ∈ l, digit b) → l.length < k → numL k n (l ++ [c]) = stp (numL k n l) c
  | 0, _, _, _, h => absurd h (by omega)
  | k + 1, n, [], _, _ => by
    show numL (k + 1) n [c] = stp n c
    unfold numL
    rw [decide_eq_false (show ¬ (c.toNat : Int) < 48 by have := hc.1; omega), decide_eq_false (show ¬ (c.toNat : Int) > 57 by have := hc.2; omega)]
    show numL k (stp n c) [] = _
    cases k <;> rfl
  | k + 1, n, b :: r, hb, h => by
    have h0 := hb b (List.mem_cons_self ..)
    have e : (decide ((b.toNat : Int) < 48) || decide ((b.toNat : Int) > 57)) = false := by
      rw [decide_eq_false (show ¬ (b.toNat : Int) < 48 by have := h0.1; omega), decide_eq_false (show ¬ (b.toNat : Int) > 57 by have := h0.2; omega)]; rfl
    show (bif (decide ((b.toNat : Int) < 48) || decide ((b.toNat : Int) > 57)) then 0 else numL k (stp n b) (r ++ [c])) = stp (bif (decide ((b.toNat : Int) < 48) || decide ((b.toNat : Int) > 57)) then 0 else numL k (stp n b) r) c
    rw [e, cond_false, cond_false]
    exact numL_app c hc k (stp n b) r (fun x hx => hb x (List.mem_cons_of_mem _ hx)) (by rw [List.length_cons] at h; omega)
theorem wrap8s {n : Nat} (h : n < 256) : IntKind.u8.wrap (n : Int) = n := wrap_fits .u8 (by show (0 : Int) ≤ n; omega) (by show (n : Int) ≤ 255; omega)
theorem stp_digit (m d : Nat) (hd : d < 10) (h : 10 * m + d < 18446744073709551616) : stp (m : Int) (UInt8.ofNat (48 + d)) = ((10 * m + d : Nat) : Int) := by
  unfold stp
  rw [dig_byte d hd, show ((48 + d : Nat) : Int) - 48 = (d : Int) by omega, wrap8s (by omega), wrapU (by omega), show (10 : Int) * (m : Int) = ((10 * m : Nat) : Int) by omega, wrapU (by omega), show ((10 * m : Nat) : Int) + (d : Int) = ((10 * m + d : Nat) : Int) by omega, wrapU (by omega)]
theorem numV_dec (u : Nat) (h : u < 18446744073709551616) : numV (decS u) = u := by
  unfold numV
  rw [decS_data]
  have key : ∀ u : Nat, u < 18446744073709551616 → numL 20 0 (Lib.decDigits u) = u := by
    intro u
    induction u using Nat.strongRecOn with
    | ind u ih =>
      intro h
      have hlen := dec_len u h
      rw [dig_step] at hlen ⊢
      by_cases hu : u < 10
      · rw [if_pos hu]
        have := numL_app (UInt8.ofNat (48 + u)) (by unfold digit; rw [dig_byte u hu]; omega) 20 0 [] (by intro b hb; cases hb) (by show 0 < 20; omega)
        rw [List.nil_append] at this
        rw [this]
        have h2 := stp_digit 0 u hu (by omega)
        show stp 0 _ = _
        rw [show ((0 : Nat) : Int) = 0 from rfl] at h2
        rw [h2]
        omega
      · rw [if_neg hu] at hlen ⊢
        rw [List.length_append] at hlen
        rw [numL_app _ (by unfold digit; rw [dig_byte _ (Nat.mod_lt _ (by omega))]; have := Nat.mod_lt u (show 10 > 0 by omega); omega) 20 0 _ (dig_all (u / 10)) (by have : [UInt8.ofNat (48 + u % 10)].length = 1 := rfl; omega), ih (u / 10) (by omega) (by omega), stp_digit _ _ (Nat.mod_lt _ (by omega)) (by omega)]
        omega
  exact key u h
theorem smV_dec (u : Nat) (h : u ≤ 65535) : smV (decS u) = u := by
  unfold smV
  rw [numV_dec u (by omega), decide_eq_false (by omega)]
  rfl

end Go.Proofs.YtcjjlajpbakaoaaGreatDoor

/-
  SUPERBLOCK (chapter 36): the document's split.
-/
namespace Go.Proofs.YtcjjlajpbakaoaaGreatDoor
open Go.Va

noncomputable def body51 : Code := codeOf Tryz.prog 51 [.r, .r, .r, .l, .r, .b, .b]
def T51 (s : ByteArray) (o : Value) (f i : Int) (w : Nat → Value) : List Value := fillT 32 [(0, .string s), (3, o), (4, .int .i64 f), (5, .int .i64 i)] w
def S51 (n : Nat) : AS := (base0 9 tabs).push (.tail n 1 9)
def cut (s : ByteArray) (f i : Int) : ByteArray := s.extract f.toNat i.toNat
/-- A byte that is no space. -/
theorem skip51n (s : ByteArray) (f i : Int) (w : Nat → Value) (h1 : decide (i ≤ (s.size : Int)) = true) (h2 : (i == (s.size : Int)) = false) (h3 : 0 ≤ i ∧ i < (s.size : Int)) (h4 : (((chr s i).toNat : Int) == 32) = false) :
    ∃ w', runW Tryz.prog (envL []) 0 (.code ⟨51, none⟩ body51 (T51 s (.slice none 0 0) f i w) []) (base0 9 tabs) = some (.done .normal (T51 s (.slice none 0 0) f (IntKind.i64.wrap (i + 1)) w') [], base0 9 tabs) :=
  seg 300 [(4, .br true), (4, .br false), (2, .ok), (2, .br false)] (m := 32) (js := [0, 3, 4, 5]) (vs := [.string s, .slice none 0 0, .int .i64 f, .int .i64 (IntKind.i64.wrap (i + 1))])
    (ob := [_, _, _, _]) (by kernel_rfl) ⟨h1, h2, h3, h4⟩
theorem skip51 (s : ByteArray) (c : List Value) (n : Nat) (f i : Int) (w : Nat → Value) (h1 : decide (i ≤ (s.size : Int)) = true) (h2 : (i == (s.size : Int)) = false) (h3 : 0 ≤ i ∧ i < (s.size : Int)) (h4 : (((chr s i).toNat : Int) == 32) = false) :
    ∃ w', runW Tryz.prog (envL []) 0 (.code ⟨51, none⟩ body51 (T51 s (L c n 1 11) f i w) []) (S51 c.length) = some (.done .normal (T51 s (L c n 1 11) f (IntKind.i64.wrap (i + 1)) w') [], S51 c.length) :=
  seg 300 [(4, .br true), (4, .br false), (2, .ok), (2, .br false)] (m := 32) (js := [0, 3, 4, 5]) (vs := [.string s, L c n 1 11, .int .i64 f, .int .i64 (IntKind.i64.wrap (i + 1))])
    (ob := [_, _, _, _]) (by kernel_rfl) ⟨h1, h2, h3, h4⟩
/-- A space. -/
theorem word51n (s : ByteArray) (f i : Int) (w : Nat → Value) (h1 : decide (i ≤ (s.size : Int)) = true) (h2 : (i == (s.size : Int)) = false) (h3 : 0 ≤ i ∧ i < (s.size : Int)) (h4 : (((chr s i).toNat : Int) == 32) = true) (h5 : 0 ≤ f ∧ f ≤ i ∧ i ≤ (s.size : Int)) :
    ∃ w', runW Tryz.prog (envL []) 0 (.code ⟨51, none⟩ body51 (T51 s (.slice none 0 0) f i w) []) (base0 9 tabs) = some (.done .normal (T51 s (L [.string (cut s f i)] 1 1 11) (IntKind.i64.wrap (i + 1)) (IntKind.i64.wrap (i + 1)) w') [], S51 1) :=
  seg 300 [(4, .br true), (4, .br false), (2, .ok), (2, .br true), (4, .ok)] (m := 32) (js := [0, 3, 4, 5]) (vs := [.string s, L [.string (cut s f i)] 1 1 11, .int .i64 (IntKind.i64.wrap (i + 1)), .int .i64 (IntKind.i64.wrap (i + 1))])
    (ob := [_, _, _, _, _]) (by kernel_rfl) ⟨h1, h2, h3, h4, h5⟩
theorem word51 (s : ByteArray) (c : List Value) (n : Nat) (f i : Int) (w : Nat → Value) (h1 : decide (i ≤ (s.size : Int)) = true) (h2 : (i == (s.size : Int)) = false) (h3 : 0 ≤ i ∧ i < (s.size : Int)) (h4 : (((chr s i).toNat : Int) == 32) = true) (h5 : 0 ≤ f ∧ f ≤ i ∧ i ≤ (s.size : Int))
    (h6 : c.length = c.length ∧ (n + 1) * 16 ≤ 70368744177664) :
    ∃ w', runW Tryz.prog (envL []) 0 (.code ⟨51, none⟩ body51 (T51 s (L c n 1 11) f i w) []) (S51 c.length) = some (.done .normal (T51 s (L (List.append c [.string (cut s f i)]) (n + 1) 1 11) (IntKind.i64.wrap (i + 1)) (IntKind.i64.wrap (i + 1)) w') [], S51 (List.append c [.string (cut s f i)]).length) :=
  seg 300 [(4, .br true), (4, .br false), (2, .ok), (2, .br true), (4, .ok), (1, .ok)] (m := 32) (js := [0, 3, 4, 5]) (vs := [.string s, L (List.append c [.string (cut s f i)]) (n + 1) 1 11, .int .i64 (IntKind.i64.wrap (i + 1)), .int .i64 (IntKind.i64.wrap (i + 1))])
    (ob := [_, _, _, _, _, _]) (by kernel_rfl) ⟨h1, h2, h3, h4, h5, h6⟩
/-- The end of the string. -/
theorem last51n (s : ByteArray) (f i : Int) (w : Nat → Value) (h1 : decide (i ≤ (s.size : Int)) = true) (h2 : (i == (s.size : Int)) = true) (h5 : 0 ≤ f ∧ f ≤ i ∧ i ≤ (s.size : Int)) :
    ∃ w', runW Tryz.prog (envL []) 0 (.code ⟨51, none⟩ body51 (T51 s (.slice none 0 0) f i w) []) (base0 9 tabs) = some (.done .normal (T51 s (L [.string (cut s f i)] 1 1 11) (IntKind.i64.wrap (i + 1)) (IntKind.i64.wrap (i + 1)) w') [], S51 1) :=
  seg 300 [(4, .br true), (4, .br true), (6, .ok)] (m := 32) (js := [0, 3, 4, 5]) (vs := [.string s, L [.string (cut s f i)] 1 1 11, .int .i64 (IntKind.i64.wrap (i + 1)), .int .i64 (IntKind.i64.wrap (i + 1))])
    (ob := [_, _, _]) (by kernel_rfl) ⟨h1, h2, h5⟩
theorem last51 (s : ByteArray) (c : List Value) (n : Nat) (f i : Int) (w : Nat → Value) (h1 : decide (i ≤ (s.size : Int)) = true) (h2 : (i == (s.size : Int)) = true) (h5 : 0 ≤ f ∧ f ≤ i ∧ i ≤ (s.size : Int))
    (h6 : c.length = c.length ∧ (n + 1) * 16 ≤ 70368744177664) :
    ∃ w', runW Tryz.prog (envL []) 0 (.code ⟨51, none⟩ body51 (T51 s (L c n 1 11) f i w) []) (S51 c.length) = some (.done .normal (T51 s (L (List.append c [.string (cut s f i)]) (n + 1) 1 11) (IntKind.i64.wrap (i + 1)) (IntKind.i64.wrap (i + 1)) w') [], S51 (List.append c [.string (cut s f i)]).length) :=
  seg 300 [(4, .br true), (4, .br true), (6, .ok), (1, .ok)] (m := 32) (js := [0, 3, 4, 5]) (vs := [.string s, L (List.append c [.string (cut s f i)]) (n + 1) 1 11, .int .i64 (IntKind.i64.wrap (i + 1)), .int .i64 (IntKind.i64.wrap (i + 1))])
    (ob := [_, _, _, _]) (by kernel_rfl) ⟨h1, h2, h5, h6⟩
theorem end51 (s : ByteArray) (c : List Value) (n : Nat) (f i : Int) (w : Nat → Value) (h1 : decide (i ≤ (s.size : Int)) = false) :
    ∃ w', runW Tryz.prog (envL []) 0 (.code ⟨51, none⟩ body51 (T51 s (L c n 1 11) f i w) []) (S51 c.length) = some (.done (.exit 0) (fillT 32 [(3, L c n 1 11)] w') [], S51 c.length) :=
  seg 300 [(4, .br false)] (m := 32) (js := [3]) (vs := [L c n 1 11]) (ob := [decide (i ≤ (s.size : Int)) = false]) (by kernel_rfl) h1

/-- The words: `k` bytes are left at place `i`, the word began at `f`. -/
def wds (s : ByteArray) : Nat → Nat → Nat → List ByteArray
  | 0, f, i => [cut s f i]
  | k + 1, f, i => bif ((chr s i).toNat : Int) == 32 then cut s f i :: wds s k (i + 1) (i + 1) else wds s k f (i + 1)
def splD (s : ByteArray) : List ByteArray := wds s s.size 0 0
theorem wds_len (s : ByteArray) : ∀ (k f i : Nat), (wds s k f i).length ≤ k + 1
  | 0, _, _ => Nat.le_refl 1
  | k + 1, f, i => by
    unfold wds
    cases ((chr s i).toNat : Int) == 32 with
    | true => have := wds_len s k (i + 1) (i + 1); show (wds s k (i + 1) (i + 1)).length + 1 ≤ _; omega
    | false => have := wds_len s k f (i + 1); show (wds s k f (i + 1)).length ≤ _; omega
theorem strs_app1 (c : List ByteArray) (x : ByteArray) : List.append (strs c) [.string x] = strs (c ++ [x]) := by
  show strs c ++ [.string x] = _
  unfold strs
  rw [List.map_append]
  rfl
theorem w51 {i : Nat} (h : i < 1000000000) : IntKind.i64.wrap ((i : Int) + 1) = ((i + 1 : Nat) : Int) := by rw [wrap64 (by omega) (by omega)]; rfl
theorem loop51 (s : ByteArray) (hs : s.size < 1000000) : ∀ (k f i : Nat) (c : List ByteArray) (n : Nat) (w : Nat → Value), i + k = s.size → f ≤ i → c.length = n → n ≤ i →
    ∃ w', runW Tryz.prog (envL []) 0 (.code ⟨51, none⟩ (.loop body51) (T51 s (L (strs c) n 1 11) f i w) []) (S51 (strs c).length) =
      some (.done (.exit 0) (fillT 32 [(3, L (strs (c ++ wds s k f i)) (n + (wds s k f i).length) 1 11)] w') [], S51 (strs (c ++ wds s k f i)).length) := by
  intro k
  induction k with
  | zero =>
    intro f i c n w hi hf hc hn
    obtain ⟨w1, r1⟩ := last51 s (strs c) n f i w (decide_eq_true (by omega)) (beq_iff_eq.2 (by omega)) ⟨by omega, by omega, by omega⟩ ⟨rfl, by omega⟩
    rw [w51 (by omega), strs_app1] at r1
    obtain ⟨w', r2⟩ := end51 s (strs (c ++ [cut s f i])) (n + 1) ((i + 1 : Nat) : Int) ((i + 1 : Nat) : Int) w1 (decide_eq_false (by omega))
    exact ⟨w', loop_next r1 (loop_out (by intro h; cases h) r2)⟩
  | succ k ih =>
    intro f i c n w hi hf hc hn
    unfold wds
    cases h : ((chr s i).toNat : Int) == 32 with
    | true =>
      obtain ⟨w1, r1⟩ := word51 s (strs c) n f i w (decide_eq_true (by omega)) (beq_eq_false_iff_ne.2 (by omega)) ⟨by omega, by omega⟩ h ⟨by omega, by omega, by omega⟩ ⟨rfl, by omega⟩
      rw [w51 (by omega), strs_app1] at r1
      obtain ⟨w', r2⟩ := ih (i + 1) (i + 1) (c ++ [cut s f i]) (n + 1) w1 (by omega) (by omega) (by rw [List.length_append, hc]; rfl) (by omega)
      refine ⟨w', ?_⟩
      rw [cond_true, List.length_cons, show n + ((wds s k (i + 1) (i + 1)).length + 1) = n + 1 + (wds s k (i + 1) (i + 1)).length by omega, show c ++ cut s f i :: wds s k (i + 1) (i + 1) = c ++ [cut s f i] ++ wds s k (i + 1) (i + 1) by rw [List.append_assoc]; rfl]
      exact loop_next r1 r2
    | false =>
      obtain ⟨w1, r1⟩ := skip51 s (strs c) n f i w (decide_eq_true (by omega)) (beq_eq_false_iff_ne.2 (by omega)) ⟨by omega, by omega⟩ h
      rw [w51 (by omega)] at r1
      obtain ⟨w', r2⟩ := ih f (i + 1) c n w1 (by omega) (by omega) hc (by omega)
      exact ⟨w', loop_next r1 r2⟩
theorem loop51n (s : ByteArray) (hs : s.size < 1000000) : ∀ (k f i : Nat) (w : Nat → Value), i + k = s.size → f ≤ i →
    ∃ w', runW Tryz.prog (envL []) 0 (.code ⟨51, none⟩ (.loop body51) (T51 s (.slice none 0 0) f i w) []) (base0 9 tabs) =
      some (.done (.exit 0) (fillT 32 [(3, L (strs (wds s k f i)) (wds s k f i).length 1 11)] w') [], S51 (strs (wds s k f i)).length) := by
  intro k
  induction k with
  | zero =>
    intro f i w hi hf
    obtain ⟨w1, r1⟩ := last51n s f i w (decide_eq_true (by omega)) (beq_iff_eq.2 (by omega)) ⟨by omega, by omega, by omega⟩
    rw [w51 (by omega)] at r1
    obtain ⟨w', r2⟩ := end51 s (strs [cut s f i]) 1 ((i + 1 : Nat) : Int) ((i + 1 : Nat) : Int) w1 (decide_eq_false (by omega))
    exact ⟨w', loop_next r1 (loop_out (by intro h; cases h) r2)⟩
  | succ k ih =>
    intro f i w hi hf
    unfold wds
    cases h : ((chr s i).toNat : Int) == 32 with
    | true =>
      obtain ⟨w1, r1⟩ := word51n s f i w (decide_eq_true (by omega)) (beq_eq_false_iff_ne.2 (by omega)) ⟨by omega, by omega⟩ h ⟨by omega, by omega, by omega⟩
      rw [w51 (by omega)] at r1
      obtain ⟨w', r2⟩ := loop51 s hs k (i + 1) (i + 1) [cut s f i] 1 w1 (by omega) (by omega) rfl (by omega)
      refine ⟨w', ?_⟩
      rw [cond_true, List.length_cons, show (wds s k (i + 1) (i + 1)).length + 1 = 1 + (wds s k (i + 1) (i + 1)).length by omega]
      exact loop_next r1 r2
    | false =>
      obtain ⟨w1, r1⟩ := skip51n s f i w (decide_eq_true (by omega)) (beq_eq_false_iff_ne.2 (by omega)) ⟨by omega, by omega⟩ h
      rw [w51 (by omega)] at r1
      obtain ⟨w', r2⟩ := ih f (i + 1) w1 (by omega) (by omega)
      exact ⟨w', loop_next r1 r2⟩
/-- The document's split. -/
theorem p51 (s : ByteArray) (hs : s.size < 1000000) : Pure Tryz.prog 9 tabs 51 [.string s] (L (strs (splD s)) (splD s).length 1 0) := by
  obtain ⟨w', h⟩ := loop51n s hs s.size 0 0 (fun j => Go.Va.look [(2, .slice none 0 0)] j undef) (by omega) (by omega)
  exact pureL (l := []) trivial (n := 300) (v := L (strs (splD s)) (splD s).length 1 11) [(4, .skip (.done (.exit 0) (fillT 32 [(3, L (strs (splD s)) (splD s).length 1 11)] w') []) (S51 (strs (splD s)).length))] [_] (by kernel_rfl) h rfl (PF_list (by omega) (strs_PF _))

end Go.Proofs.YtcjjlajpbakaoaaGreatDoor
