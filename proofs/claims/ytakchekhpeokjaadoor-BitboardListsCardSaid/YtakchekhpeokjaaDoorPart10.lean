/-
  The functions that the statement reaches: what they answer, part 10.
-/
import Derived.Test.YtakchekhpeokjaaDoorPart9
import Derived.Test.YtakchekhpeokjaaDoorVap4
import Derived.Test.YtakchekhpeokjaaDoorPart1
import Derived.Test.YtakchekhpeokjaaDoorCards
import Derived.Test.YtakchekhpeokjaaDoorTie
import Derived.WalkKit
import Derived.ProofKit
import Derived.OpenShut
import Derived.Deep.DeepHandedRow
import Derived.Lib.LaidTab

/-
  BITBOARD (chapter 05): BitboardTexts is true.
-/
namespace Go.Proofs.YtakchekhpeokjaaDoor
open Go.Va

theorem lines_get (x : BitVec 64) {i : Nat} (hi : i < 8) : (strs (pcs 10 (topB x 8)))[i]? = some (.string (str (rowB x (7 - i) 8))) := by
  have := top_pcs x [] 8
  rw [List.append_nil] at this
  rw [this]
  refine strs_get _ ?_
  rw [List.getElem?_append_left (by simp; omega), List.getElem?_map, List.getElem?_range hi]; rfl
theorem lines_last (x : BitVec 64) : (strs (pcs 10 (topB x 8)))[8]? = some (.string ⟨#[]⟩) := by
  have := top_pcs x [] 8
  rw [List.append_nil] at this
  rw [this]
  refine (strs_get _ (p := []) ?_).trans rfl
  rw [List.getElem?_append_right (by simp)]; rfl
theorem lines_len (x : BitVec 64) : (pcs 10 (topB x 8)).length = 9 := by
  have := top_pcs x [] 8
  rw [List.append_nil] at this
  rw [this]; rfl
theorem loop9 (x : BitVec 64) (r : Nat) (a c : Int) (σ : AS) (hg : σ.get r = some (.cells (strs (pcs 10 (topB x 8))) true (none, some 9) none)) : ∀ (k i : Nat) (w : Nat → Value), i + k = 64 →
    ∃ w', runW Tryd.prog env16 0 (.code ⟨9, none⟩ (.loop body9) (T9 (u x) (textS x) r a c i w) []) σ = some (.done (.exit 0) (T9 (u x) (textS x) r a c 64 w') [], σ) := by
  intro k
  induction k with
  | zero =>
    intro i w hi
    obtain rfl : i = 64 := by omega
    obtain ⟨w', h⟩ := end9 (u x) (textS x) r a c 64 σ w (by decide)
    exact ⟨w', loop_out (by intro h; cases h) h⟩
  | succ k ih =>
    intro i w hi
    have e1 : inc (i : Int) = ((i + 1 : Nat) : Int) := by unfold inc; rw [wrap64 (by omega) (by omega)]; rfl
    have e2 : ln9 (i : Int) = ((7 - i / 8 : Nat) : Int) := by
      unfold ln9
      rw [Int.tdiv_eq_ediv_of_nonneg (by omega), wrap64 (n := (i : Int) / 8) (by omega) (by omega), wrap64 (by omega) (by omega)]
      omega
    have e3 : (i : Int).tmod 8 = ((i % 8 : Nat) : Int) := by rw [Int.tmod_eq_emod_of_nonneg (by omega)]; omega
    have hl := lines_get x (i := 7 - i / 8) (by omega)
    rw [show 7 - (7 - i / 8) = i / 8 by omega] at hl
    have hc : σ.cell? ⟨r, 0 + (ln9 (i : Int)).toNat * 1, none⟩ = some (.string (str (rowB x (i / 8) 8))) := by
      rw [e2, Int.toNat_natCast, Nat.mul_one, Nat.zero_add]
      exact cell_of hg hl
    have hsz : (str (rowB x (i / 8) 8)).size = 8 := by rw [str_size, rowB_len]
    have hil : i % 8 < (str (rowB x (i / 8) 8)).data.toList.length := by rw [str_data, rowB_len]; omega
    have hat : (str (rowB x (i / 8) 8)).data.toList[i % 8] = dotx (x.getLsbD i) := by
      have : (rowB x (i / 8) 8)[i % 8]? = some (dotx (x.getLsbD i)) := by
        unfold rowB
        rw [List.getElem?_map, List.getElem?_range (by omega)]
        show some (dotx (x.getLsbD (8 * (i / 8) + i % 8))) = _
        rw [show 8 * (i / 8) + i % 8 = i by omega]
      have h2 : (str (rowB x (i / 8) 8)).data.toList[i % 8]? = some (dotx (x.getLsbD i)) := by rw [str_data]; exact this
      rw [List.getElem?_eq_getElem hil] at h2
      exact Option.some.inj h2
    have hov : ∀ lim σ, env16.ov 12 [.int .u64 (u x), .int .i64 (i : Int)] lim σ = some (.bool (x.getLsbD i), σ) := fun lim σ => by
      rw [ov16_12, hasS_u x _ (by omega) (by omega), Int.toNat_natCast]
    have h120 := chr_eq (str (rowB x (i / 8) 8)) hil 120 120 rfl
    have h46 := chr_eq (str (rowB x (i / 8) 8)) hil 46 46 rfl
    rw [hat] at h120 h46
    have : ∃ w', runW Tryd.prog env16 0 (.code ⟨9, none⟩ body9 (T9 (u x) (textS x) r a c i w) []) σ = some (.done .normal (T9 (u x) (textS x) r a c (inc i) w') [], σ) := by
      cases hb : x.getLsbD i with
      | true =>
        rw [hb] at h120 h46
        exact round9_true (u x) (textS x) (str (rowB x (i / 8) 8)) r a c i σ w (decide_eq_true (by omega)) (by rw [e2]; omega) hc (by rw [hsz]; rfl) (by rw [e3, hsz]; omega) (by rw [e3]; exact h120) (fun σ => by rw [hov, hb]) (by rw [e3]; exact h46)
      | false =>
        rw [hb] at h120 h46
        exact round9_false (u x) (textS x) (str (rowB x (i / 8) 8)) r a c i σ w (decide_eq_true (by omega)) (by rw [e2]; omega) hc (by rw [hsz]; rfl) (by rw [e3, hsz]; omega) (by rw [e3]; exact h120) (fun σ => by rw [hov, hb]) (by rw [e3]; exact h46)
    obtain ⟨w1, h1⟩ := this
    rw [e1] at h1
    obtain ⟨w', h2⟩ := ih (i + 1) w1 (by omega)
    exact ⟨w', loop_next h1 h2⟩

theorem xorS_u (x y : BitVec 64) : xorS (u x) (u y) = u (x ^^^ y) := by unfold xorS; rw [ofInt_u, ofInt_u]; exact wrap_toNat _

theorem law9_all (x : BitVec 64) (a c : Int) (ha : 0 ≤ a ∧ a ≤ 255) (hc : 0 ≤ c ∧ c ≤ 255) : Pure Tryd.prog 4 tabs 9 [.int .u64 (u x), .int .u8 a, .int .u8 c] (.bool true) := by
  have hsz : (textS x).size = 72 := by
    have : (textS x).data.toList.length = (textS x).size := by show _ = (textS x).data.size; simp
    rw [← this, textS_data, top_len]
  obtain ⟨σ, hs, hg, _, _⟩ := split_ox (textS x) (by rw [hsz]; omega) (base0 4 tabs)
  rw [textS_data] at hs hg
  rw [lines_len] at hs
  obtain ⟨w1, hloop⟩ := loop9 x (base0 4 tabs).next a c σ hg 64 0 (w9 (u x) (textS x) (base0 4 tabs).next) rfl
  rw [show ((0 : Nat) : Int) = 0 from rfl] at hloop
  have hF := app_of (P := Tryd.prog) (E := env16) (lim := 0) rfl hs
  -- the place
  obtain ⟨k, hk, hk2⟩ : ∃ k : Nat, k < 72 ∧ (IntKind.i64.wrap a).tmod 72 = (k : Int) := by
    refine ⟨a.toNat % 72, Nat.mod_lt _ (by omega), ?_⟩
    rw [wrap64 (by omega) (by omega), Int.tmod_eq_emod_of_nonneg (by omega)]
    omega
  have hk1 : IntKind.i64.wrap ((k : Int) + 1) = ((k + 1 : Nat) : Int) := by rw [wrap64 (by omega) (by omega)]; rfl
  have hcu : (c.toNat.toUInt8.toNat : Int) = c := by
    have : c.toNat < 256 := by omega
    have h2 : c.toNat.toUInt8.toNat = c.toNat := by simp [Nat.mod_eq_of_lt this]
    omega
  have hone : one c = str [c.toNat.toUInt8] := rfl
  have ht1 : (textS x).extract 0 ((k : Int)).toNat = str ((topB x 8).take k) := by rw [ex_str, textS_data, List.drop_zero, Nat.sub_zero, Int.toNat_natCast]
  have ht2 : (textS x).extract (((k + 1 : Nat) : Int)).toNat (textS x).size = str ((topB x 8).drop (k + 1)) := by
    rw [ex_str, textS_data, hsz, Int.toNat_natCast, List.take_of_length_le (by rw [List.length_drop, top_len]; omega)]
  have h3 : cat3 (textS x) k ((k + 1 : Nat) : Int) c = str (chg x k c.toNat.toUInt8) := by
    unfold cat3
    rw [ht1, ht2, hone, str_app, str_app, chg_eq x hk]
  have h2 : cat2 (textS x) k ((k + 1 : Nat) : Int) = str ((topB x 8).take k ++ (topB x 8).drop (k + 1)) := by
    unfold cat2
    rw [ht1, ht2, str_app]
  have hs3 : (str (chg x k c.toNat.toUInt8)).size = 72 := by rw [str_size]; unfold chg; rw [List.length_set, top_len]
  have l1 : ((topB x 8).take k).length = k := by rw [List.length_take, top_len]; omega
  have l2 : ((topB x 8).drop (k + 1)).length = 71 - k := by rw [List.length_drop, top_len]; omega
  have g1 : ∀ σ, env16.ov 32 [.int .u64 (u x)] 0 σ = some (.string (textS x), σ) := fun σ => ov16_32 x 0 σ
  have g2 : ∀ σ, env16.ov 40 [.string (textS x)] 0 σ = some (.tuple #[.int .u64 (u x), .int .i64 0], σ) := fun σ => by rw [ov16_40 (by rw [hsz]; omega), pV_text]
  have g5 : σ.cell? ⟨(base0 4 tabs).next, 8, none⟩ = some (.string ⟨#[]⟩) := cell_of hg (lines_last x)
  have g7 : ((textS x).size : Int) = 72 := by rw [hsz]; rfl
  have g9 : 0 ≤ (k : Int) ∧ (k : Int) ≤ (textS x).size := by rw [hsz]; omega
  have g10 : ((((textS x).extract 0 ((k : Int)).toNat).size + (one c).size : Nat) : Int) ≤ IntKind.i64.max := size_ok (by rw [ht1, str_size, l1]; omega) _ (by rw [hone, str_size]; simp)
  have g12 : 0 ≤ ((k + 1 : Nat) : Int) ∧ ((k + 1 : Nat) : Int) ≤ (textS x).size := by rw [hsz]; omega
  have g13 : ((((textS x).extract 0 ((k : Int)).toNat ++ one c).size + ((textS x).extract (((k + 1 : Nat) : Int)).toNat (textS x).size).size : Nat) : Int) ≤ IntKind.i64.max :=
    size_ok (by rw [ht1, hone, str_app, str_size, List.length_append, l1]; simp; omega) _ (by rw [ht2, str_size, l2]; omega)
  have g15 : ((((textS x).extract 0 ((k : Int)).toNat).size + ((textS x).extract (((k + 1 : Nat) : Int)).toNat (textS x).size).size : Nat) : Int) ≤ IntKind.i64.max :=
    size_ok (by rw [ht1, str_size, l1]; omega) _ (by rw [ht2, str_size, l2]; omega)
  have g16 : ∀ σ, env16.ov 40 [.string (cat2 (textS x) k ((k + 1 : Nat) : Int))] 0 σ = some (.tuple #[.int .u64 0, .int .i64 8], σ) := fun σ => by
    rw [h2, ov16_40 (by rw [str_size, List.length_append, l1, l2]; omega), pV_none (cut_none x hk)]
  have g17 : 0 ≤ (k : Int) ∧ (k : Int) < (textS x).size := by rw [hsz]; omega
  have hkl : k < (textS x).data.toList.length := by rw [textS_data, top_len]; exact hk
  have hget : (topB x 8)[k]? = some ((textS x).data.toList[k]) := by
    have := List.getElem?_eq_getElem hkl
    exact (congrArg (·[k]?) (textS_data x)).symm.trans this
  have hchr : chr (textS x) k = ((textS x).data.toList[k].toNat : Int) := by
    unfold chr
    rw [Int.toNat_natCast, List.getD_eq_getElem?_getD, List.getElem?_eq_getElem hkl, Option.getD_some]
  have hov3 : ∀ lim σ, env16.ov 40 [.string (cat3 (textS x) k ((k + 1 : Nat) : Int) c)] lim σ = some (pV (str (chg x k c.toNat.toUInt8)), σ) := fun lim σ => by
    rw [h3, ov16_40 (by rw [hs3]; omega)]
  have hxx : (u x != u x) = false := bne_self_eq_false _
  by_cases hsame : (textS x).data.toList[k] = c.toNat.toUInt8
  · have hV : pV (str (chg x k c.toNat.toUInt8)) = .tuple #[.int .u64 (u x), .int .i64 0] := by
      rw [chg_same x hk (by rw [hget, hsame])]
      exact pV_text x
    have hcc : (c == chr (textS x) k) = true := by rw [hchr, hsame, hcu]; exact beq_self_eq_true _
    have := law9_same (u x) (textS x) _ a c 64 k ((k + 1 : Nat) : Int) (base0 4 tabs) σ w1 g1 g2 hF hxx g5 hloop g7 hk2 g9 g10 hk1 g12 g13 (fun σ => by rw [hov3, hV]) g15 g16 g17 hcc (beq_self_eq_true _)
    exact pureR t16_ok fns16 this rfl (.bool _)
  · have hne : (topB x 8)[k]? ≠ some c.toNat.toUInt8 := by rw [hget]; intro e; exact hsame (Option.some.inj e)
    have hcc : (c == chr (textS x) k) = false := by
      rw [hchr]
      refine beq_eq_false_iff_ne.2 fun e => hsame (UInt8.toNat_inj.1 ?_)
      omega
    have hat := topB_at x hk
    rw [hget] at hat
    have hat := Option.some.inj hat
    by_cases h9 : k % 9 < 8
    · rw [if_pos h9] at hat
      have h10 : (chr (textS x) k != 10) = true := by
        rw [hchr, hat]
        cases x.getLsbD (8 * (7 - k / 9) + k % 9) <;> rfl
      have hlen1 : ∀ σ, env16.ov 24 [.int .u64 (xorS (u (flipB x (8 * (7 - k / 9) + k % 9))) (u x))] 0 σ = some (.int .i64 1, σ) := fun σ => by
        rw [xorS_u, ov16_24, lenS_u, flip_one x (by omega)]; rfl
      by_cases hx : c = 120
      · have hcb : c.toNat.toUInt8 = 120 := by rw [hx]; rfl
        have hV : pV (str (chg x k c.toNat.toUInt8)) = .tuple #[.int .u64 (u (flipB x (8 * (7 - k / 9) + k % 9))), .int .i64 0] := by
          rw [chg_text x hk h9 (.inl hcb) hne]
          exact pV_text _
        have := law9_x (u x) (textS x) _ a c 64 k ((k + 1 : Nat) : Int) (u (flipB x (8 * (7 - k / 9) + k % 9))) (base0 4 tabs) σ w1 g1 g2 hF hxx g5 hloop g7 hk2 g9 g10 hk1 g12 g13 (fun σ => by rw [hov3, hV]) g15 g16 g17 hcc h10 (beq_iff_eq.2 hx) hlen1
        exact pureR t16_ok fns16 this rfl (.bool _)
      · have hx1 : (c == 120) = false := beq_eq_false_iff_ne.2 hx
        by_cases hd : c = 46
        · have hcb : c.toNat.toUInt8 = 46 := by rw [hd]; rfl
          have hV : pV (str (chg x k c.toNat.toUInt8)) = .tuple #[.int .u64 (u (flipB x (8 * (7 - k / 9) + k % 9))), .int .i64 0] := by
            rw [chg_text x hk h9 (.inr hcb) hne]
            exact pV_text _
          have := law9_dot (u x) (textS x) _ a c 64 k ((k + 1 : Nat) : Int) (u (flipB x (8 * (7 - k / 9) + k % 9))) (base0 4 tabs) σ w1 g1 g2 hF hxx g5 hloop g7 hk2 g9 g10 hk1 g12 g13 (fun σ => by rw [hov3, hV]) g15 g16 g17 hcc h10 hx1 (beq_iff_eq.2 hd) hlen1
          exact pureR t16_ok fns16 this rfl (.bool _)
        · have hV : pV (str (chg x k c.toNat.toUInt8)) = .tuple #[.int .u64 0, .int .i64 8] := by
            refine pV_none (chg_none x hk hne fun h => ?_)
            rcases h.2 with h | h
            · exact hx (by rw [← hcu, h]; rfl)
            · exact hd (by rw [← hcu, h]; rfl)
          have := law9_other (u x) (textS x) _ a c 64 k ((k + 1 : Nat) : Int) (base0 4 tabs) σ w1 g1 g2 hF hxx g5 hloop g7 hk2 g9 g10 hk1 g12 g13 (fun σ => by rw [hov3, hV]) g15 g16 g17 hcc h10 hx1 (beq_eq_false_iff_ne.2 hd)
          exact pureR t16_ok fns16 this rfl (.bool _)
    · rw [if_neg h9] at hat
      have h10 : (chr (textS x) k != 10) = false := by rw [hchr, hat]; rfl
      have hV : pV (str (chg x k c.toNat.toUInt8)) = .tuple #[.int .u64 0, .int .i64 8] := pV_none (chg_none x hk hne fun h => h9 h.1)
      have := law9_line (u x) (textS x) _ a c 64 k ((k + 1 : Nat) : Int) (base0 4 tabs) σ w1 g1 g2 hF hxx g5 hloop g7 hk2 g9 g10 hk1 g12 g13 (fun σ => by rw [hov3, hV]) g15 g16 g17 hcc h10
      exact pureR t16_ok fns16 this rfl (.bool _)
theorem law9' (s a c : Int) (h0 : IntKind.u64.min ≤ s) (h1 : s ≤ IntKind.u64.max) (a0 : IntKind.u8.min ≤ a) (a1 : a ≤ IntKind.u8.max) (c0 : IntKind.u8.min ≤ c) (c1 : c ≤ IntKind.u8.max) : Pure Tryd.prog 4 tabs 9 [.int .u64 s, .int .u8 a, .int .u8 c] (.bool true) := by
  have b0 : (0 : Int) ≤ s := h0
  have b1 : s ≤ 18446744073709551615 := h1
  rw [u_of s b0 (by omega)]
  exact law9_all _ a c ⟨a0, a1⟩ ⟨c0, c1⟩
end Go.Proofs.YtakchekhpeokjaaDoor

/-
  BITBOARD (chapter 05): BitboardLists is true. Printed by gen05va.py.
-/
namespace Go.Proofs.YtakchekhpeokjaaDoor
open Go.Va

/-! ## The document's files and ranks -/

theorem closed6 {f : FuncId} {args : List Value} {v : Value} {n : Nat} (hr : valIs v (run Tryd.prog env6 n 0 (.call f args) (base0 4 tabs)) = true) (hu : strip v = v) (hv : PF v) : Pure Tryd.prog 4 tabs f args v := by
  obtain ⟨σ', h⟩ := valIs_spec hr
  exact pureR t6_ok fns6 (runW_of h) hu hv
noncomputable def at6 (f : Nat) (v : Int → Value) (a : Nat) : Bool := valIs (v a) (run Tryd.prog env6 1000 0 (.call f [.int .i64 a]) (base0 4 tabs))
set_option maxRecDepth 1000000 in
theorem at44 : ((List.range 8).all (at6 44 fileV)) = true := by kernel_rfl
set_option maxRecDepth 1000000 in
theorem at45 : ((List.range 8).all (at6 45 rankV)) = true := by kernel_rfl
theorem fileV_PF (n : Int) : PF (fileV n) := PF_pair (.int _ _) (.int _ _)
theorem rankV_PF (n : Int) : PF (rankV n) := PF_pair (.int _ _) (.int _ _)
theorem out_inr {n : Int} (h : n < 0 ∨ n > 7) : inr n 8 = false := by
  unfold inr
  rcases h with h | h
  · rw [decide_eq_false (show ¬ n ≥ 0 by omega)]; rfl
  · rw [decide_eq_false (show ¬ n < 8 by omega), Bool.and_false]
theorem p44 (n : Int) : Pure Tryd.prog 4 tabs 44 [.int .i64 n] (fileV n) := by
  by_cases h0 : n < 0
  · have e : fileV n = .tuple #[.int .u64 0, .int .i64 3] := by unfold fileV fileS; rw [out_inr (.inl h0)]; rfl
    rw [e]
    exact pureT t6_ok fns6 (n := 100) (v := .tuple #[.int .u64 0, .int .i64 3]) [(3, .br true)] [decide (n < 0) = true] (by kernel_rfl) (decide_eq_true h0) rfl (PF_pair (.int _ _) (.int _ _))
  · by_cases h7 : n > 7
    · have e : fileV n = .tuple #[.int .u64 0, .int .i64 3] := by unfold fileV fileS; rw [out_inr (.inr h7)]; rfl
      rw [e]
      exact pureT t6_ok fns6 (n := 100) (v := .tuple #[.int .u64 0, .int .i64 3]) [(3, .br false), (2, .br true)] [decide (n < 0) = false, decide (n > 7) = true] (by kernel_rfl) ⟨decide_eq_false h0, decide_eq_true h7⟩ rfl (PF_pair (.int _ _) (.int _ _))
    · obtain ⟨a, rfl⟩ : ∃ a : Nat, n = a := ⟨n.toNat, by omega⟩
      exact closed6 (List.all_eq_true.1 at44 a (List.mem_range.2 (by omega))) rfl (fileV_PF _)
theorem p45 (n : Int) : Pure Tryd.prog 4 tabs 45 [.int .i64 n] (rankV n) := by
  by_cases h0 : n < 0
  · have e : rankV n = .tuple #[.int .u64 0, .int .i64 3] := by unfold rankV rankS; rw [out_inr (.inl h0)]; rfl
    rw [e]
    exact pureT t6_ok fns6 (n := 100) (v := .tuple #[.int .u64 0, .int .i64 3]) [(3, .br true)] [decide (n < 0) = true] (by kernel_rfl) (decide_eq_true h0) rfl (PF_pair (.int _ _) (.int _ _))
  · by_cases h7 : n > 7
    · have e : rankV n = .tuple #[.int .u64 0, .int .i64 3] := by unfold rankV rankS; rw [out_inr (.inr h7)]; rfl
      rw [e]
      exact pureT t6_ok fns6 (n := 100) (v := .tuple #[.int .u64 0, .int .i64 3]) [(3, .br false), (2, .br true)] [decide (n < 0) = false, decide (n > 7) = true] (by kernel_rfl) ⟨decide_eq_false h0, decide_eq_true h7⟩ rfl (PF_pair (.int _ _) (.int _ _))
    · obtain ⟨a, rfl⟩ : ∃ a : Nat, n = a := ⟨n.toNat, by omega⟩
      exact closed6 (List.all_eq_true.1 at45 a (List.mem_range.2 (by omega))) rfl (rankV_PF _)
def kI (g : Int → Value) : List Value → Option Value
  | [.int .i64 n] => some (g n)
  | _ => none
theorem kI_ok {f : FuncId} {g : Int → Value} (hp : ∀ n, Pure Tryd.prog 4 tabs f [.int .i64 n] (g n)) : KOk Tryd.prog 4 tabs f (kI g) := by
  intro args v h
  unfold kI at h
  split at h
  · cases h; exact hp _
  · cases h
noncomputable def t17 : Ktab := (44, kI fileV) :: (45, kI rankV) :: t16
theorem t17_ok : TOk Tryd.prog 4 tabs t17 := ⟨kI_ok p44, kI_ok p45, t16_ok⟩
noncomputable def env17 : Env := envT t17
set_option maxRecDepth 100000 in
theorem fns17 : fnB Tryd.prog 4 env17 okL = true := by kernel_rfl
theorem pf17_40 (args : List Value) : pfT t17 40 args = k40 args := by unfold t17 t16; iterate 2 rw [pfT_ne rfl]
                                                                       rw [pfT_eq]
theorem pf17_46 (args : List Value) : pfT t17 46 args = k40 args := by unfold t17 t16; iterate 3 rw [pfT_ne rfl]
                                                                       rw [pfT_eq]
theorem pf17_43 (args : List Value) : pfT t17 43 args = k36 args := by
  unfold t17 t16 t15 t14 t13 t12 t11 t10; iterate 20 rw [pfT_ne rfl]
  rw [pfT_eq]
theorem pf17_16 (args : List Value) : pfT t17 16 args = k16 args := by
  unfold t17 t16 t15 t14 t13 t12 t11 t10 t9 t8; iterate 23 rw [pfT_ne rfl]
  rw [pfT_eq]
theorem pf17_36 (args : List Value) : pfT t17 36 args = k36 args := by
  unfold t17 t16 t15 t14 t13 t12 t11 t10 t9 t8; iterate 25 rw [pfT_ne rfl]
  rw [pfT_eq]
theorem ov17_40 {s : ByteArray} (h : s.size < 90000) (lim : Nat) (σ : AS) : env17.ov 40 [.string s] lim σ = some (pV s, σ) := envK rfl rfl rfl rfl ((pf17_40 _).trans (k40_s h))
theorem ov17_46 {s : ByteArray} (h : s.size < 90000) (lim : Nat) (σ : AS) : env17.ov 46 [.string s] lim σ = some (pV s, σ) := envK rfl rfl rfl rfl ((pf17_46 _).trans (k40_s h))
theorem ov17_36 {a a' : Value} {l : List Int} (lim : Nat) (σ : AS) (ea : strip a = a') (ha : IsZ a' l) : env17.ov 36 [a] lim σ = some (ofV l, σ) :=
  envZ rfl rfl ea ha ((pf17_36 _).trans (by unfold k36; dsimp only; rw [zl_eq ha]))
theorem ov17_43 {a a' : Value} {l : List Int} (lim : Nat) (σ : AS) (ea : strip a = a') (ha : IsZ a' l) : env17.ov 43 [a] lim σ = some (ofV l, σ) :=
  envZ rfl rfl ea ha ((pf17_43 _).trans (by unfold k36; dsimp only; rw [zl_eq ha]))
theorem ov17_16 {a b a' b' : Value} {l : List Int} (lim : Nat) (σ : AS) (ea : strip a = a') (eb : strip b = b') (ha : IsZ a' l) (hb : IsZ b' l) : env17.ov 16 [a, b] lim σ = some (.bool true, σ) := by
  refine envT_ov rfl rfl (pureOv_of ?_ ?_)
  · show (flatB 100 (strip a) && (flatB 100 (strip b) && true)) = true
    rw [ea, eb, IsZ_flat ha, IsZ_flat hb]; rfl
  · show pfT t17 16 [strip a, strip b] = _
    rw [ea, eb, pf17_16, k16_eq ha hb, beq_self_eq_true]

/-! ## The law -/

theorem law10_nil (n A E Q K : Int) (s : ByteArray) (h1 : decide ((s.size : Int) > 200) = false) (h2 : (∀ σ, env17.ov 36 [.slice none 0 0] 0 σ = some (.tuple #[.int .u64 A, .int .i64 E], σ))) (h3 : (∀ σ, env17.ov 43 [.slice none 0 0] 0 σ = some (.tuple #[.int .u64 A, .int .i64 E], σ))) (h4 : (∀ σ, env17.ov 40 [.string s] 0 σ = some (.tuple #[.int .u64 Q, .int .i64 K], σ))) (h5 : (∀ σ, env17.ov 46 [.string s] 0 σ = some (.tuple #[.int .u64 Q, .int .i64 K], σ))) (h6 : (∀ σ, env17.ov 16 [.slice none 0 0, .slice none 0 0] 0 σ = some (.bool true, σ))) :
    Pure Tryd.prog 4 tabs 10 [.slice none 0 0, .int .i64 n, .string s] (.bool true) :=
  pureT t17_ok fns17 (n := 500) (v := .bool true) [(7, .br false), (11, .ov (.tuple #[.int .u64 A, .int .i64 E])), (6, .ov (.tuple #[.int .u64 A, .int .i64 E])), (34, .ov (.tuple #[.int .u64 Q, .int .i64 K])), (6, .ov (.tuple #[.int .u64 Q, .int .i64 K])), (7, .br true), (3, .br true), (4, .br true), (4, .br true), (4, .br true), (4, .br true), (4, .br true), (4, .br true), (4, .ov (.bool true))]
    [decide ((s.size : Int) > 200) = false, (∀ σ, env17.ov 36 [.slice none 0 0] 0 σ = some (.tuple #[.int .u64 A, .int .i64 E], σ)), (∀ σ, env17.ov 43 [.slice none 0 0] 0 σ = some (.tuple #[.int .u64 A, .int .i64 E], σ)), (∀ σ, env17.ov 40 [.string s] 0 σ = some (.tuple #[.int .u64 Q, .int .i64 K], σ)), (∀ σ, env17.ov 46 [.string s] 0 σ = some (.tuple #[.int .u64 Q, .int .i64 K], σ)), (A == A) = true, (E == E) = true, (fileS n == fileS n) = true, (okOr (inr n 8) == okOr (inr n 8)) = true, (rankS n == rankS n) = true, (okOr (inr n 8) == okOr (inr n 8)) = true, (Q == Q) = true, (K == K) = true, (∀ σ, env17.ov 16 [.slice none 0 0, .slice none 0 0] 0 σ = some (.bool true, σ))] (by kernel_rfl) ⟨h1, h2, h3, h4, h5, beq_self_eq_true _, beq_self_eq_true _, beq_self_eq_true _, beq_self_eq_true _, beq_self_eq_true _, beq_self_eq_true _, beq_self_eq_true _, beq_self_eq_true _, h6⟩ rfl (.bool _)

theorem law10_none (n A E Q K : Int) (s : ByteArray) (h1 : decide ((s.size : Int) > 200) = false) (h2 : (∀ σ, env17.ov 36 [L [] 0 1 1] 0 σ = some (.tuple #[.int .u64 A, .int .i64 E], σ))) (h3 : (∀ σ, env17.ov 43 [L [] 0 1 0] 0 σ = some (.tuple #[.int .u64 A, .int .i64 E], σ))) (h4 : (∀ σ, env17.ov 40 [.string s] 0 σ = some (.tuple #[.int .u64 Q, .int .i64 K], σ))) (h5 : (∀ σ, env17.ov 46 [.string s] 0 σ = some (.tuple #[.int .u64 Q, .int .i64 K], σ))) (h6 : (∀ σ, env17.ov 16 [L [] 0 1 1, L [] 0 1 0] 0 σ = some (.bool true, σ))) :
    Pure Tryd.prog 4 tabs 10 [L [] 0 1 0, .int .i64 n, .string s] (.bool true) :=
  pureT t17_ok fns17 (n := 500) (v := .bool true) [(7, .br false), (14, .ov (.tuple #[.int .u64 A, .int .i64 E])), (6, .ov (.tuple #[.int .u64 A, .int .i64 E])), (34, .ov (.tuple #[.int .u64 Q, .int .i64 K])), (6, .ov (.tuple #[.int .u64 Q, .int .i64 K])), (7, .br true), (3, .br true), (4, .br true), (4, .br true), (4, .br true), (4, .br true), (4, .br true), (4, .br true), (4, .ov (.bool true))]
    [decide ((s.size : Int) > 200) = false, (∀ σ, env17.ov 36 [L [] 0 1 1] 0 σ = some (.tuple #[.int .u64 A, .int .i64 E], σ)), (∀ σ, env17.ov 43 [L [] 0 1 0] 0 σ = some (.tuple #[.int .u64 A, .int .i64 E], σ)), (∀ σ, env17.ov 40 [.string s] 0 σ = some (.tuple #[.int .u64 Q, .int .i64 K], σ)), (∀ σ, env17.ov 46 [.string s] 0 σ = some (.tuple #[.int .u64 Q, .int .i64 K], σ)), (A == A) = true, (E == E) = true, (fileS n == fileS n) = true, (okOr (inr n 8) == okOr (inr n 8)) = true, (rankS n == rankS n) = true, (okOr (inr n 8) == okOr (inr n 8)) = true, (Q == Q) = true, (K == K) = true, (∀ σ, env17.ov 16 [L [] 0 1 1, L [] 0 1 0] 0 σ = some (.bool true, σ))] (by kernel_rfl) ⟨h1, h2, h3, h4, h5, beq_self_eq_true _, beq_self_eq_true _, beq_self_eq_true _, beq_self_eq_true _, beq_self_eq_true _, beq_self_eq_true _, beq_self_eq_true _, beq_self_eq_true _, h6⟩ rfl (.bool _)

theorem law10_list (d : List Value) (k : Nat) (n A E Q K : Int) (s : ByteArray) (h1 : decide ((k : Int) > 200) = false) (h2 : decide ((s.size : Int) > 200) = false) (h3 : k ≠ 0 ∧ (0 + k) * 8 ≤ 70368744177664) (h4 : (∀ σ, env17.ov 36 [L d (0 + k) 1 6] 0 σ = some (.tuple #[.int .u64 A, .int .i64 E], σ))) (h5 : (∀ σ, env17.ov 43 [L d k 1 0] 0 σ = some (.tuple #[.int .u64 A, .int .i64 E], σ))) (h6 : (∀ σ, env17.ov 40 [.string s] 0 σ = some (.tuple #[.int .u64 Q, .int .i64 K], σ))) (h7 : (∀ σ, env17.ov 46 [.string s] 0 σ = some (.tuple #[.int .u64 Q, .int .i64 K], σ))) (h8 : (∀ σ, env17.ov 16 [L d (0 + k) 1 6, L d k 1 0] 0 σ = some (.bool true, σ))) :
    Pure Tryd.prog 4 tabs 10 [L d k 1 0, .int .i64 n, .string s] (.bool true) :=
  pureT t17_ok fns17 (n := 500) (v := .bool true) [(3, .br false), (3, .br false), (10, .ok), (3, .ov (.tuple #[.int .u64 A, .int .i64 E])), (6, .ov (.tuple #[.int .u64 A, .int .i64 E])), (34, .ov (.tuple #[.int .u64 Q, .int .i64 K])), (6, .ov (.tuple #[.int .u64 Q, .int .i64 K])), (7, .br true), (3, .br true), (4, .br true), (4, .br true), (4, .br true), (4, .br true), (4, .br true), (4, .br true), (4, .ov (.bool true))]
    [decide ((k : Int) > 200) = false, decide ((s.size : Int) > 200) = false, k ≠ 0 ∧ (0 + k) * 8 ≤ 70368744177664, (∀ σ, env17.ov 36 [L d (0 + k) 1 6] 0 σ = some (.tuple #[.int .u64 A, .int .i64 E], σ)), (∀ σ, env17.ov 43 [L d k 1 0] 0 σ = some (.tuple #[.int .u64 A, .int .i64 E], σ)), (∀ σ, env17.ov 40 [.string s] 0 σ = some (.tuple #[.int .u64 Q, .int .i64 K], σ)), (∀ σ, env17.ov 46 [.string s] 0 σ = some (.tuple #[.int .u64 Q, .int .i64 K], σ)), (A == A) = true, (E == E) = true, (fileS n == fileS n) = true, (okOr (inr n 8) == okOr (inr n 8)) = true, (rankS n == rankS n) = true, (okOr (inr n 8) == okOr (inr n 8)) = true, (Q == Q) = true, (K == K) = true, (∀ σ, env17.ov 16 [L d (0 + k) 1 6, L d k 1 0] 0 σ = some (.bool true, σ))] (by kernel_rfl) ⟨h1, h2, h3, h4, h5, h6, h7, beq_self_eq_true _, beq_self_eq_true _, beq_self_eq_true _, beq_self_eq_true _, beq_self_eq_true _, beq_self_eq_true _, beq_self_eq_true _, beq_self_eq_true _, h8⟩ rfl (.bool _)

theorem law10_long (d : List Value) (k : Nat) (n : Int) (s : ByteArray) (h : decide ((k : Int) > 200) = true) : Pure Tryd.prog 4 tabs 10 [L d k 1 0, .int .i64 n, .string s] (.bool true) :=
  pureT t17_ok fns17 (n := 500) (v := .bool true) [(3, .br true)] [decide ((k : Int) > 200) = true] (by kernel_rfl) h rfl (.bool _)
theorem law10_text (d : List Value) (k : Nat) (n : Int) (s : ByteArray) (h1 : decide ((k : Int) > 200) = false) (h : decide ((s.size : Int) > 200) = true) : Pure Tryd.prog 4 tabs 10 [L d k 1 0, .int .i64 n, .string s] (.bool true) :=
  pureT t17_ok fns17 (n := 500) (v := .bool true) [(3, .br false), (3, .br true)] [decide ((k : Int) > 200) = false, decide ((s.size : Int) > 200) = true] (by kernel_rfl) ⟨h1, h⟩ rfl (.bool _)
theorem law10_text' (n : Int) (s : ByteArray) (h : decide ((s.size : Int) > 200) = true) : Pure Tryd.prog 4 tabs 10 [.slice none 0 0, .int .i64 n, .string s] (.bool true) :=
  pureT t17_ok fns17 (n := 500) (v := .bool true) [(7, .br true)] [decide ((s.size : Int) > 200) = true] (by kernel_rfl) h rfl (.bool _)
theorem ofV_form (l : List Int) : ∃ A E : Int, ofV l = .tuple #[.int .u64 A, .int .i64 E] := by
  unfold ofV
  cases l.all (fun n => inr n 64) <;> exact ⟨_, _, rfl⟩
theorem pV_form (s : ByteArray) : ∃ Q K : Int, pV s = .tuple #[.int .u64 Q, .int .i64 K] := by
  by_cases h : ∃ x, textS x = s
  · obtain ⟨x, rfl⟩ := h
    exact ⟨_, _, pV_text x⟩
  · exact ⟨_, _, pV_none h⟩
theorem law10_z (n : Int) (s : ByteArray) : Pure Tryd.prog 4 tabs 10 [.slice none 0 0, .int .i64 n, .string s] (.bool true) := by
  by_cases hs : s.size ≤ 200
  · obtain ⟨A, E, e1⟩ := ofV_form []
    obtain ⟨Q, K, e2⟩ := pV_form s
    exact law10_nil n A E Q K s (decide_eq_false (by omega)) (fun σ => by rw [ov17_36 (a' := .slice none 0 0) 0 σ rfl IsZ_nil, show natZ [] = [] from rfl, e1]) (fun σ => by rw [ov17_43 (a' := .slice none 0 0) 0 σ rfl IsZ_nil, show natZ [] = [] from rfl, e1])
      (fun σ => by rw [ov17_40 (by omega), e2]) (fun σ => by rw [ov17_46 (by omega), e2]) fun σ => ov17_16 (a' := .slice none 0 0) (b' := .slice none 0 0) (l := natZ []) 0 σ rfl rfl IsZ_nil IsZ_nil
  · exact law10_text' n s (decide_eq_true (by omega))
theorem law10_l (l : List Int) (n : Int) (s : ByteArray) : Pure Tryd.prog 4 tabs 10 [L (zs l) l.length 1 0, .int .i64 n, .string s] (.bool true) := by
  by_cases hk : l.length ≤ 200
  · by_cases hs : s.size ≤ 200
    · obtain ⟨A, E, e1⟩ := ofV_form l
      obtain ⟨Q, K, e2⟩ := pV_form s
      have hz : IsZ (L (zs l) l.length 1 0) l := .inr ⟨0, by omega, rfl, by omega⟩
      have hz1 : IsZ (L (zs l) l.length 1 1) l := .inr ⟨1, by omega, rfl, by omega⟩
      cases l with
      | nil =>
        exact law10_none n A E Q K s (decide_eq_false (by omega)) (fun σ => by rw [ov17_36 (a' := L [] 0 1 1) 0 σ rfl hz1, e1]) (fun σ => by rw [ov17_43 (a' := L [] 0 1 0) 0 σ rfl hz, e1])
          (fun σ => by rw [ov17_40 (by omega), e2]) (fun σ => by rw [ov17_46 (by omega), e2]) fun σ => ov17_16 (a' := L [] 0 1 1) (b' := L [] 0 1 0) (l := []) 0 σ rfl rfl hz1 hz
      | cons a l =>
        refine law10_list (zs (a :: l)) (a :: l).length n A E Q K s (decide_eq_false (by omega)) (decide_eq_false (by omega)) ⟨by simp, by omega⟩ (fun σ => ?_) (fun σ => by rw [ov17_43 (a' := L (zs (a :: l)) (a :: l).length 1 0) 0 σ rfl hz, e1])
          (fun σ => by rw [ov17_40 (by omega), e2]) (fun σ => by rw [ov17_46 (by omega), e2]) fun σ => ?_
        · rw [Nat.zero_add, ov17_36 (a' := L (zs (a :: l)) (a :: l).length 1 0) 0 σ rfl hz, e1]
        · rw [Nat.zero_add]
          exact ov17_16 (a' := L (zs (a :: l)) (a :: l).length 1 0) (b' := L (zs (a :: l)) (a :: l).length 1 0) (l := a :: l) 0 σ rfl rfl hz hz
    · exact law10_text _ _ n s (decide_eq_false (by omega)) (decide_eq_true (by omega))
  · exact law10_long _ _ n s (decide_eq_true (by omega))
end Go.Proofs.YtakchekhpeokjaaDoor

/-
  BITBOARD (chapter 05): BitboardLists: what stands for a slice of numbers at the start.
-/
namespace Go.Proofs.YtakchekhpeokjaaDoor
open Go.Va

/-- A pure function is called so, where lists stand among its arguments. -/
theorem callsR {P : Program} {G : Nat} {tabs : List (Nat × List Value)} {f : FuncId} {args : List Value} {v : Value} (h : Pure P G tabs f args v) (hpv : plainB 100 v = true) {fn : Func} (hfn : P.funcs[f]? = some fn) (hb : fn.body.isNone = false) (hname : (fn.name == "runtime.NumGoroutine") = false) {w : World} (hT : Tabs G tabs w)
    {z : Nat → Nat → Option ZC} (hz : Go.Va.Rest z w) {args' : Array Value} (ha : lRel (inj1 G z w.heap.size) args args'.toList) : Calls P f args' w fun e w' => e = .returned v ∧ RowKit.Below w.heap.size w w' := by
  have hcall : (callFunc f args').run P w = .ok (.enter f args') w := by
    unfold callFunc
    rw [run_bind']
    show (match P.funcs[f]? with | none => _ | some fn => _ : Sem Next).run P w = _
    rw [hfn]
    simp only [hname, Bool.false_eq_true, if_false, hb]
    rfl
  cases h.2 w hT z hz args' ha with
  | value h1 => rw [hcall] at h1; cases h1
  | skip h1 => rw [hcall] at h1; cases h1
  | row h1 => rw [hcall] at h1; cases h1
  | round h1 => rw [hcall] at h1; cases h1
  | enter h1 q =>
    rw [hcall] at h1
    cases h1
    intro cs
    obtain ⟨e, w', fr, ⟨v', rfl, hb, z', _, _, hv⟩, r⟩ := q cs
    exact ⟨_, w', fr, ⟨by rw [plain_eq 100 v v' hpv hv], hb⟩, r⟩

/-- The cells of a row of numbers, at rest. -/
def zoneOf (b o : Nat) (l : List Int) (b' j : Nat) : Option ZC := if b' = b ∧ o ≤ j then (l[j - o]?).map fun n => ⟨.int .i64 n, none⟩ else none
theorem zone_rest {w : World} {b o : Nat} {l : List Int} (h : ∀ i, i < l.length → w.cell? ⟨b, o + i, none⟩ = some (.int .i64 (l.getD i 0))) : Go.Va.Rest (zoneOf b o l) w where
  zone := fun {b' j c} hc => by
    unfold zoneOf at hc
    split at hc
    · rename_i hbj
      obtain ⟨rfl, hoj⟩ := hbj
      obtain ⟨n, hn, rfl⟩ := Option.map_eq_some_iff.1 hc
      obtain ⟨hlt, rfl⟩ := List.getElem?_eq_some_iff.1 hn
      have := h (j - o) hlt
      rw [show o + (j - o) = j by omega, List.getD_eq_getElem?_getD, List.getElem?_eq_getElem hlt] at this
      unfold World.cell? at this
      dsimp only at this
      cases hh : w.heap[b']? with
      | none => rw [hh] at this; cases this
      | some x =>
        cases x with
        | cells C ty fr => rw [hh] at this; exact ⟨C, ty, fr, rfl, this⟩
        | _ => rw [hh] at this; cases this
    · cases hc
  tags := fun {b' j v T k real} hc => by
    unfold zoneOf at hc
    split at hc
    · obtain ⟨n, _, e⟩ := Option.map_eq_some_iff.1 hc
      cases e
    · cases hc
theorem zone_lst {G n : Nat} {b o : Nat} {l : List Int} {cap : Nat} (hc : l.length ≤ cap) : vRel (inj1 G (zoneOf b o l) n) (L (zs l) l.length 1 0) (.slice (some ⟨b, o, none⟩) l.length cap) := by
  have hsz : (⟨zs l⟩ : Array Value).size = l.length := by show (zs l).length = _; unfold zs; simp
  have hget : ∀ i (hi : i < (⟨zs l⟩ : Array Value).size), (⟨zs l⟩ : Array Value)[i] = .int .i64 (l[i]'(by rw [← hsz]; exact hi)) := fun i hi => by
    have hl : i < (l.map fun n : Int => Value.int .i64 n).length := by rw [List.length_map, ← hsz]; exact hi
    have := List.getElem_map (fun n : Int => Value.int .i64 n) (l := l) (i := i) (h := hl)
    exact this
  refine vRel.lst (cs := ⟨zs l⟩) (cs' := ⟨zs l⟩) rfl (by rw [hsz, Nat.mul_one]) (fun i hi => ⟨none, ?_⟩) (fun i hi => ?_) (fun i hi _ => ?_) hc trivial
  · have hi' : i < l.length := by rw [← hsz]; exact hi
    show (if b = b ∧ o ≤ o + i then (l[o + i - o]?).map fun n => (⟨.int .i64 n, none⟩ : ZC) else none) = _
    rw [if_pos ⟨rfl, by omega⟩, show o + i - o = i by omega, List.getElem?_eq_getElem hi', hget i hi]
    rfl
  · rw [hget i hi]; exact ⟨rfl, .int _ _⟩
  · rw [hget i hi]; exact .int _ _

/-! ## A slice of no number, with a place -/

noncomputable def tV : Ktab := [(44, kI fileV), (45, kI rankV), (40, k40), (46, k40), (13, k13), (34, k34), (35, k35)]
theorem tV_ok : TOk Tryd.prog 4 tabs tV := by
  refine ⟨kI_ok p44, kI_ok p45, k40_ok p40, k40_ok fun s _ => p46 s, ?_, ?_, ?_, trivial⟩ <;> intro args v h
  · unfold k13 at h; split at h <;> cases h; exact works_pure
  · unfold k34 at h; split at h <;> cases h; exact p34 _
  · unfold k35 at h; split at h <;> cases h; exact p35 _
noncomputable def envV : Env := envT tV
set_option maxRecDepth 100000 in
theorem fnsV : fnB Tryd.prog 4 envV okL = true := by kernel_rfl
theorem ovV_40 {s : ByteArray} (h : s.size < 90000) (lim : Nat) (σ : AS) : envV.ov 40 [.string s] lim σ = some (pV s, σ) :=
  envK rfl rfl rfl rfl (by unfold tV; rw [pfT_ne rfl, pfT_ne rfl, pfT_eq]; exact k40_s h)
theorem ovV_46 {s : ByteArray} (h : s.size < 90000) (lim : Nat) (σ : AS) : envV.ov 46 [.string s] lim σ = some (pV s, σ) :=
  envK rfl rfl rfl rfl (by unfold tV; rw [pfT_ne rfl, pfT_ne rfl, pfT_ne rfl, pfT_eq]; exact k40_s h)
theorem law10_v (n : Int) (s : ByteArray) : Pure Tryd.prog 4 tabs 10 [.slice (some void) 0 0, .int .i64 n, .string s] (.bool true) := by
  by_cases hs : s.size ≤ 200
  · obtain ⟨Q, K, e2⟩ := pV_form s
    exact pureT tV_ok fnsV (n := 500) (v := .bool true) [(7, .br false), (81, .ov (.tuple #[.int .u64 Q, .int .i64 K])), (6, .ov (.tuple #[.int .u64 Q, .int .i64 K])), (16, .br true), (4, .br true), (4, .br true), (4, .br true), (4, .br true), (4, .br true)]
      [decide ((s.size : Int) > 200) = false, (∀ σ, envV.ov 40 [.string s] 0 σ = some (.tuple #[.int .u64 Q, .int .i64 K], σ)), (∀ σ, envV.ov 46 [.string s] 0 σ = some (.tuple #[.int .u64 Q, .int .i64 K], σ)), (fileS n == fileS n) = true, (okOr (inr n 8) == okOr (inr n 8)) = true, (rankS n == rankS n) = true, (okOr (inr n 8) == okOr (inr n 8)) = true, (Q == Q) = true, (K == K) = true] (by kernel_rfl)
      ⟨decide_eq_false (by omega), fun σ => by rw [ovV_40 (by omega), e2], fun σ => by rw [ovV_46 (by omega), e2], beq_self_eq_true _, beq_self_eq_true _, beq_self_eq_true _, beq_self_eq_true _, beq_self_eq_true _, beq_self_eq_true _⟩ rfl (.bool _)
  · exact pureT tV_ok fnsV (n := 500) (v := .bool true) [(7, .br true)] [decide ((s.size : Int) > 200) = true] (by kernel_rfl) (decide_eq_true (by omega)) rfl (.bool _)
end Go.Proofs.YtakchekhpeokjaaDoor

/-
  BITBOARD (chapter 05): what the laws' rows share: the table's world, what the row's list gives.
-/
namespace Go.Proofs.YtakchekhpeokjaaDoor
open Go.Va Go.ChangeShapes Go.WideShapes Go.ChangeAt Go.RowKit

theorem own : ownKnob Tryd.prog.godebug = Option.none := by kernel_rfl
theorem fourth : ((((begin Tryd.prog (fun _ _ => 0) default).world.heap[3]?).bind Obj.row?).isSome) = true := by kernel_rfl
theorem globs : Tryd.prog.globals.size = 4 := by kernel_rfl
theorem gTab : Tryd.prog.globalNamed "math/bits.deBruijn64tab" = some 0 := by kernel_rfl
theorem gTabType : (Tryd.prog.globals[0]?).map (·.type) = some 80 := by kernel_rfl
theorem cells80 : Tryd.prog.cellsOf 80 = 64 := by kernel_rfl
theorem cells5 : Tryd.prog.cellsOf 5 = 1 := by kernel_rfl
def tabL : List Int := [0, 1, 56, 2, 57, 49, 28, 3, 61, 58, 42, 50, 38, 29, 17, 4, 62, 47, 59, 36, 45, 43, 51, 22, 53, 39, 33, 30, 24, 18, 12, 5, 63, 55, 48, 27, 60, 41, 37, 16, 46, 35, 44, 21, 52, 32, 23, 11, 54, 26, 40, 15, 34, 20, 31, 10, 25, 14, 19, 9, 13, 8, 7, 6]

theorem table {W : World} (h : laidMetH Tryd.prog [("math/bits.deBruijn64tab", Rows.laid_math_bits_deBruijn64tab)] W) : Lib.TabIs Tryd.prog W "math/bits.deBruijn64tab" .u8 tabL :=
  Lib.tabIs_of_head (rest := []) gTab gTabType Tryd.underlying80 Tryd.underlying5 cells5 cells80 h

theorem tabs_of {W : World} (h : W.ShapedOpen Tryd.prog) (hL : laidMetH Tryd.prog [("math/bits.deBruijn64tab", Rows.laid_math_bits_deBruijn64tab)] W) : Tabs 4 tabs W := by
  obtain ⟨h1, _⟩ := h
  have h3 := fourth
  rw [Option.isSome_iff_exists] at h3
  obtain ⟨⟨zero, t⟩, h3⟩ := h3
  obtain ⟨cs, h4, _⟩ := h1 3 zero t (by rw [globs]; decide) h3
  rw [Array.getElem?_eq_some_iff] at h4
  obtain ⟨h5, _⟩ := h4
  have ht := table hL
  refine ⟨by omega, fun x hx => ?_⟩
  have hx : x = (0, tabL.map fun n => Value.int .u8 n) := by
    have : tabs = [(0, tabL.map fun n => Value.int .u8 n)] := rfl
    rw [this] at hx
    simpa using hx
  subst hx
  have cell : ∀ i (hi : i < tabL.length), W.cell? ⟨0, i, none⟩ = some (.int .u8 tabL[i]) := fun i hi => by
    have := ht.cell gTab i hi
    rw [List.getD_eq_getElem?_getD, List.getElem?_eq_getElem hi] at this
    exact this
  have h0 := cell 0 (by decide)
  unfold World.cell? at h0
  dsimp only at h0
  cases hh : W.heap[0]? with
  | none => rw [hh] at h0; cases h0
  | some o =>
    cases o with
    | cells C ty fr =>
      refine ⟨C, ty, fr, rfl, fun i hi => ?_⟩
      have hi' : i < tabL.length := by simpa using hi
      have := cell i hi'
      unfold World.cell? at this
      dsimp only at this
      rw [hh] at this
      simpa using this
    | _ => rw [hh] at h0; cases h0

def lay (c : Array Value) : Obj → Obj
  | .cells _ t frozen => .cells c t frozen
  | o => o
/-- A WORLD FOR THE WITNESS: the settled one, with the table in its block. -/
noncomputable def laidWorld (os : Os) : World :=
  { World.holding Tryd.prog os ⟨#[], #[], []⟩ with heap := (World.holding Tryd.prog os ⟨#[], #[], []⟩).heap.modify 0 (lay (tabL.map fun n => Value.int .u8 n).toArray) }

end Go.Proofs.YtakchekhpeokjaaDoor

/-
  BITBOARD (chapter 05): what the rows share whose code names the tables of unicode/utf8, too.
-/
namespace Go.Proofs.YtakchekhpeokjaaDoor
open Go.Va Go.ChangeShapes Go.WideShapes Go.ChangeAt Go.RowKit

abbrev laid3 : List (String × DataW Unit) := [("math/bits.deBruijn64tab", Rows.laid_math_bits_deBruijn64tab), ("unicode/utf8.acceptRanges", Rows.laid_unicode_utf8_acceptRanges), ("unicode/utf8.first", Rows.laid_unicode_utf8_first)]
theorem table3 {W : World} (h : laidMetH Tryd.prog laid3 W) : Lib.TabIs Tryd.prog W "math/bits.deBruijn64tab" .u8 tabL :=
  Lib.tabIs_of_head gTab gTabType Tryd.underlying80 Tryd.underlying5 cells5 cells80 h

theorem tabs_of3 {W : World} (h : W.ShapedOpen Tryd.prog) (hL : laidMetH Tryd.prog laid3 W) : Tabs 4 tabs W := by
  obtain ⟨h1, _⟩ := h
  have h3 := fourth
  rw [Option.isSome_iff_exists] at h3
  obtain ⟨⟨zero, t⟩, h3⟩ := h3
  obtain ⟨cs, h4, _⟩ := h1 3 zero t (by rw [globs]; decide) h3
  rw [Array.getElem?_eq_some_iff] at h4
  obtain ⟨h5, _⟩ := h4
  have ht := table3 hL
  refine ⟨by omega, fun x hx => ?_⟩
  have hx : x = (0, tabL.map fun n => Value.int .u8 n) := by
    have : tabs = [(0, tabL.map fun n => Value.int .u8 n)] := rfl
    rw [this] at hx
    simpa using hx
  subst hx
  have cell : ∀ i (hi : i < tabL.length), W.cell? ⟨0, i, none⟩ = some (.int .u8 tabL[i]) := fun i hi => by
    have := ht.cell gTab i hi
    rw [List.getD_eq_getElem?_getD, List.getElem?_eq_getElem hi] at this
    exact this
  have h0 := cell 0 (by decide)
  unfold World.cell? at h0
  dsimp only at h0
  cases hh : W.heap[0]? with
  | none => rw [hh] at h0; cases h0
  | some o =>
    cases o with
    | cells C ty fr =>
      refine ⟨C, ty, fr, rfl, fun i hi => ?_⟩
      have hi' : i < tabL.length := by simpa using hi
      have := cell i hi'
      unfold World.cell? at this
      dsimp only at this
      rw [hh] at this
      simpa using this
    | _ => rw [hh] at h0; cases h0

def acceptCells : Array Value := #[.int .u8 128, .int .u8 191, .int .u8 160, .int .u8 191, .int .u8 128, .int .u8 159, .int .u8 144, .int .u8 191, .int .u8 128, .int .u8 143,
  .int .u8 0, .int .u8 0, .int .u8 0, .int .u8 0, .int .u8 0, .int .u8 0, .int .u8 0, .int .u8 0, .int .u8 0, .int .u8 0, .int .u8 0, .int .u8 0, .int .u8 0, .int .u8 0, .int .u8 0, .int .u8 0, .int .u8 0, .int .u8 0, .int .u8 0, .int .u8 0, .int .u8 0, .int .u8 0]

def litOf : DataW Unit → Value
  | .lit (.int k n) => .int k n
  | _ => .bool false
def litsOf : DataW Unit → List Value
  | .agg ds => ds.map litOf
  | _ => []
/-- A WORLD FOR THE WITNESS: the settled one, with the tables in their blocks. -/
noncomputable def laidWorld3 (os : Os) : World :=
  { World.holding Tryd.prog os ⟨#[], #[], []⟩ with heap := (((World.holding Tryd.prog os ⟨#[], #[], []⟩).heap.modify 0 (lay (tabL.map fun n => Value.int .u8 n).toArray)).modify 2 (lay (litsOf Rows.laid_unicode_utf8_first).toArray)).modify 3 (lay acceptCells) }

end Go.Proofs.YtakchekhpeokjaaDoor
