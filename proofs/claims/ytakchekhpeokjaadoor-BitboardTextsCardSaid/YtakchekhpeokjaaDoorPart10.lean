/-
  The functions that the statement reaches: what they answer, part 10.
-/
import Derived.Test.YtakchekhpeokjaaDoorPart9
import Derived.Test.YtakchekhpeokjaaDoorPart1
import Derived.Test.YtakchekhpeokjaaDoorVap4
import Derived.Test.YtakchekhpeokjaaDoorCards
import Derived.Test.YtakchekhpeokjaaDoorTie
import Derived.WalkKit
import Derived.ProofKit
import Derived.OpenShut
import Derived.Deep.DeepHandedRow
import Derived.Lib.LaidTab

/-
  BITBOARD (chapter 05): BitboardTexts is true.
-/
namespace Go.Proofs.YtakchekhpeokjaaDoor
open Go.Va

theorem lines_get (x : BitVec 64) {i : Nat} (hi : i < 8) : (strs (pcs 10 (topB x 8)))[i]? = some (.string (str (rowB x (7 - i) 8))) := by
  have := top_pcs x [] 8
  rw [List.append_nil] at this
  rw [this]
  refine strs_get _ ?_
  rw [List.getElem?_append_left (by simp; omega), List.getElem?_map, List.getElem?_range hi]; rfl
theorem lines_last (x : BitVec 64) : (strs (pcs 10 (topB x 8)))[8]? = some (.string ⟨#[]⟩) := by
  have := top_pcs x [] 8
  rw [List.append_nil] at this
  rw [this]
  refine (strs_get _ (p := []) ?_).trans rfl
  rw [List.getElem?_append_right (by simp)]; rfl
theorem lines_len (x : BitVec 64) : (pcs 10 (topB x 8)).length = 9 := by
  have := top_pcs x [] 8
  rw [List.append_nil] at this
  rw [this]; rfl
theorem loop9 (x : BitVec 64) (r : Nat) (a c : Int) (σ : AS) (hg : σ.get r = some (.cells (strs (pcs 10 (topB x 8))) true (none, some 9) none)) : ∀ (k i : Nat) (w : Nat → Value), i + k = 64 →
    ∃ w', runW Tryd.prog env16 0 (.code ⟨9, none⟩ (.loop body9) (T9 (u x) (textS x) r a c i w) []) σ = some (.done (.exit 0) (T9 (u x) (textS x) r a c 64 w') [], σ) := by
  intro k
  induction k with
  | zero =>
    intro i w hi
    obtain rfl : i = 64 := by omega
    obtain ⟨w', h⟩ := end9 (u x) (textS x) r a c 64 σ w (by decide)
    exact ⟨w', loop_out (by intro h; cases h) h⟩
  | succ k ih =>
    intro i w hi
    have e1 : inc (i : Int) = ((i + 1 : Nat) : Int) := by unfold inc; rw [wrap64 (by omega) (by omega)]; rfl
    have e2 : ln9 (i : Int) = ((7 - i / 8 : Nat) : Int) := by
      unfold ln9
      rw [Int.tdiv_eq_ediv_of_nonneg (by omega), wrap64 (n := (i : Int) / 8) (by omega) (by omega), wrap64 (by omega) (by omega)]
      omega
    have e3 : (i : Int).tmod 8 = ((i % 8 : Nat) : Int) := by rw [Int.tmod_eq_emod_of_nonneg (by omega)]; omega
    have hl := lines_get x (i := 7 - i / 8) (by omega)
    rw [show 7 - (7 - i / 8) = i / 8 by omega] at hl
    have hc : σ.cell? ⟨r, 0 + (ln9 (i : Int)).toNat * 1, none⟩ = some (.string (str (rowB x (i / 8) 8))) := by
      rw [e2, Int.toNat_natCast, Nat.mul_one, Nat.zero_add]
      exact cell_of hg hl
    have hsz : (str (rowB x (i / 8) 8)).size = 8 := by rw [str_size, rowB_len]
    have hil : i % 8 < (str (rowB x (i / 8) 8)).data.toList.length := by rw [str_data, rowB_len]; omega
    have hat : (str (rowB x (i / 8) 8)).data.toList[i % 8] = dotx (x.getLsbD i) := by
      have : (rowB x (i / 8) 8)[i % 8]? = some (dotx (x.getLsbD i)) := by
        unfold rowB
        rw [List.getElem?_map, List.getElem?_range (by omega)]
        show some (dotx (x.getLsbD (8 * (i / 8) + i % 8))) = _
        rw [show 8 * (i / 8) + i % 8 = i by omega]
      have h2 : (str (rowB x (i / 8) 8)).data.toList[i % 8]? = some (dotx (x.getLsbD i)) := by rw [str_data]; exact this
      rw [List.getElem?_eq_getElem hil] at h2
      exact Option.some.inj h2
    have hov : ∀ lim σ, env16.ov 12 [.int .u64 (u x), .int .i64 (i : Int)] lim σ = some (.bool (x.getLsbD i), σ) := fun lim σ => by
      rw [ov16_12, hasS_u x _ (by omega) (by omega), Int.toNat_natCast]
    have h120 := chr_eq (str (rowB x (i / 8) 8)) hil 120 120 rfl
    have h46 := chr_eq (str (rowB x (i / 8) 8)) hil 46 46 rfl
    rw [hat] at h120 h46
    have : ∃ w', runW Tryd.prog env16 0 (.code ⟨9, none⟩ body9 (T9 (u x) (textS x) r a c i w) []) σ = some (.done .normal (T9 (u x) (textS x) r a c (inc i) w') [], σ) := by
      cases hb : x.getLsbD i with
      | true =>
        rw [hb] at h120 h46
        exact round9_true (u x) (textS x) (str (rowB x (i / 8) 8)) r a c i σ w (decide_eq_true (by omega)) (by rw [e2]; omega) hc (by rw [hsz]; rfl) (by rw [e3, hsz]; omega) (by rw [e3]; exact h120) (fun σ => by rw [hov, hb]) (by rw [e3]; exact h46)
      | false =>
        rw [hb] at h120 h46
        exact round9_false (u x) (textS x) (str (rowB x (i / 8) 8)) r a c i σ w (decide_eq_true (by omega)) (by rw [e2]; omega) hc (by rw [hsz]; rfl) (by rw [e3, hsz]; omega) (by rw [e3]; exact h120) (fun σ => by rw [hov, hb]) (by rw [e3]; exact h46)
    obtain ⟨w1, h1⟩ := this
    rw [e1] at h1
    obtain ⟨w', h2⟩ := ih (i + 1) w1 (by omega)
    exact ⟨w', loop_next h1 h2⟩

theorem xorS_u (x y : BitVec 64) : xorS (u x) (u y) = u (x ^^^ y) := by unfold xorS; rw [ofInt_u, ofInt_u]; exact wrap_toNat _

theorem law9_all (x : BitVec 64) (a c : Int) (ha : 0 ≤ a ∧ a ≤ 255) (hc : 0 ≤ c ∧ c ≤ 255) : Pure Tryd.prog 4 tabs 9 [.int .u64 (u x), .int .u8 a, .int .u8 c] (.bool true) := by
  have hsz : (textS x).size = 72 := by
    have : (textS x).data.toList.length = (textS x).size := by show _ = (textS x).data.size; simp
    rw [← this, textS_data, top_len]
  obtain ⟨σ, hs, hg, _, _⟩ := split_ox (textS x) (by rw [hsz]; omega) (base0 4 tabs)
  rw [textS_data] at hs hg
  rw [lines_len] at hs
  obtain ⟨w1, hloop⟩ := loop9 x (base0 4 tabs).next a c σ hg 64 0 (w9 (u x) (textS x) (base0 4 tabs).next) rfl
  rw [show ((0 : Nat) : Int) = 0 from rfl] at hloop
  have hF := app_of (P := Tryd.prog) (E := env16) (lim := 0) rfl hs
  -- the place
  obtain ⟨k, hk, hk2⟩ : ∃ k : Nat, k < 72 ∧ (IntKind.i64.wrap a).tmod 72 = (k : Int) := by
    refine ⟨a.toNat % 72, Nat.mod_lt _ (by omega), ?_⟩
    rw [wrap64 (by omega) (by omega), Int.tmod_eq_emod_of_nonneg (by omega)]
    omega
  have hk1 : IntKind.i64.wrap ((k : Int) + 1) = ((k + 1 : Nat) : Int) := by rw [wrap64 (by omega) (by omega)]; rfl
  have hcu : (c.toNat.toUInt8.toNat : Int) = c := by
    have : c.toNat < 256 := by omega
    have h2 : c.toNat.toUInt8.toNat = c.toNat := by simp [Nat.mod_eq_of_lt this]
    omega
  have hone : one c = str [c.toNat.toUInt8] := rfl
  have ht1 : (textS x).extract 0 ((k : Int)).toNat = str ((topB x 8).take k) := by rw [ex_str, textS_data, List.drop_zero, Nat.sub_zero, Int.toNat_natCast]
  have ht2 : (textS x).extract (((k + 1 : Nat) : Int)).toNat (textS x).size = str ((topB x 8).drop (k + 1)) := by
    rw [ex_str, textS_data, hsz, Int.toNat_natCast, List.take_of_length_le (by rw [List.length_drop, top_len]; omega)]
  have h3 : cat3 (textS x) k ((k + 1 : Nat) : Int) c = str (chg x k c.toNat.toUInt8) := by
    unfold cat3
    rw [ht1, ht2, hone, str_app, str_app, chg_eq x hk]
  have h2 : cat2 (textS x) k ((k + 1 : Nat) : Int) = str ((topB x 8).take k ++ (topB x 8).drop (k + 1)) := by
    unfold cat2
    rw [ht1, ht2, str_app]
  have hs3 : (str (chg x k c.toNat.toUInt8)).size = 72 := by rw [str_size]; unfold chg; rw [List.length_set, top_len]
  have l1 : ((topB x 8).take k).length = k := by rw [List.length_take, top_len]; omega
  have l2 : ((topB x 8).drop (k + 1)).length = 71 - k := by rw [List.length_drop, top_len]; omega
  have g1 : ∀ σ, env16.ov 32 [.int .u64 (u x)] 0 σ = some (.string (textS x), σ) := fun σ => ov16_32 x 0 σ
  have g2 : ∀ σ, env16.ov 40 [.string (textS x)] 0 σ = some (.tuple #[.int .u64 (u x), .int .i64 0], σ) := fun σ => by rw [ov16_40 (by rw [hsz]; omega), pV_text]
  have g5 : σ.cell? ⟨(base0 4 tabs).next, 8, none⟩ = some (.string ⟨#[]⟩) := cell_of hg (lines_last x)
  have g7 : ((textS x).size : Int) = 72 := by rw [hsz]; rfl
  have g9 : 0 ≤ (k : Int) ∧ (k : Int) ≤ (textS x).size := by rw [hsz]; omega
  have g10 : ((((textS x).extract 0 ((k : Int)).toNat).size + (one c).size : Nat) : Int) ≤ IntKind.i64.max := size_ok (by rw [ht1, str_size, l1]; omega) _ (by rw [hone, str_size]; simp)
  have g12 : 0 ≤ ((k + 1 : Nat) : Int) ∧ ((k + 1 : Nat) : Int) ≤ (textS x).size := by rw [hsz]; omega
  have g13 : ((((textS x).extract 0 ((k : Int)).toNat ++ one c).size + ((textS x).extract (((k + 1 : Nat) : Int)).toNat (textS x).size).size : Nat) : Int) ≤ IntKind.i64.max :=
    size_ok (by rw [ht1, hone, str_app, str_size, List.length_append, l1]; simp; omega) _ (by rw [ht2, str_size, l2]; omega)
  have g15 : ((((textS x).extract 0 ((k : Int)).toNat).size + ((textS x).extract (((k + 1 : Nat) : Int)).toNat (textS x).size).size : Nat) : Int) ≤ IntKind.i64.max :=
    size_ok (by rw [ht1, str_size, l1]; omega) _ (by rw [ht2, str_size, l2]; omega)
  have g16 : ∀ σ, env16.ov 40 [.string (cat2 (textS x) k ((k + 1 : Nat) : Int))] 0 σ = some (.tuple #[.int .u64 0, .int .i64 8], σ) := fun σ => by
    rw [h2, ov16_40 (by rw [str_size, List.length_append, l1, l2]; omega), pV_none (cut_none x hk)]
  have g17 : 0 ≤ (k : Int) ∧ (k : Int) < (textS x).size := by rw [hsz]; omega
  have hkl : k < (textS x).data.toList.length := by rw [textS_data, top_len]; exact hk
  have hget : (topB x 8)[k]? = some ((textS x).data.toList[k]) := by
    have := List.getElem?_eq_getElem hkl
    exact (congrArg (·[k]?) (textS_data x)).symm.trans this
  have hchr : chr (textS x) k = ((textS x).data.toList[k].toNat : Int) := by
    unfold chr
    rw [Int.toNat_natCast, List.getD_eq_getElem?_getD, List.getElem?_eq_getElem hkl, Option.getD_some]
  have hov3 : ∀ lim σ, env16.ov 40 [.string (cat3 (textS x) k ((k + 1 : Nat) : Int) c)] lim σ = some (pV (str (chg x k c.toNat.toUInt8)), σ) := fun lim σ => by
    rw [h3, ov16_40 (by rw [hs3]; omega)]
  have hxx : (u x != u x) = false := bne_self_eq_false _
  by_cases hsame : (textS x).data.toList[k] = c.toNat.toUInt8
  · have hV : pV (str (chg x k c.toNat.toUInt8)) = .tuple #[.int .u64 (u x), .int .i64 0] := by
      rw [chg_same x hk (by rw [hget, hsame])]
      exact pV_text x
    have hcc : (c == chr (textS x) k) = true := by rw [hchr, hsame, hcu]; exact beq_self_eq_true _
    have := law9_same (u x) (textS x) _ a c 64 k ((k + 1 : Nat) : Int) (base0 4 tabs) σ w1 g1 g2 hF hxx g5 hloop g7 hk2 g9 g10 hk1 g12 g13 (fun σ => by rw [hov3, hV]) g15 g16 g17 hcc (beq_self_eq_true _)
    exact pureR t16_ok fns16 this rfl (.bool _)
  · have hne : (topB x 8)[k]? ≠ some c.toNat.toUInt8 := by rw [hget]; intro e; exact hsame (Option.some.inj e)
    have hcc : (c == chr (textS x) k) = false := by
      rw [hchr]
      refine beq_eq_false_iff_ne.2 fun e => hsame (UInt8.toNat_inj.1 ?_)
      omega
    have hat := topB_at x hk
    rw [hget] at hat
    have hat := Option.some.inj hat
    by_cases h9 : k % 9 < 8
    · rw [if_pos h9] at hat
      have h10 : (chr (textS x) k != 10) = true := by
        rw [hchr, hat]
        cases x.getLsbD (8 * (7 - k / 9) + k % 9) <;> rfl
      have hlen1 : ∀ σ, env16.ov 24 [.int .u64 (xorS (u (flipB x (8 * (7 - k / 9) + k % 9))) (u x))] 0 σ = some (.int .i64 1, σ) := fun σ => by
        rw [xorS_u, ov16_24, lenS_u, flip_one x (by omega)]; rfl
      by_cases hx : c = 120
      · have hcb : c.toNat.toUInt8 = 120 := by rw [hx]; rfl
        have hV : pV (str (chg x k c.toNat.toUInt8)) = .tuple #[.int .u64 (u (flipB x (8 * (7 - k / 9) + k % 9))), .int .i64 0] := by
          rw [chg_text x hk h9 (.inl hcb) hne]
          exact pV_text _
        have := law9_x (u x) (textS x) _ a c 64 k ((k + 1 : Nat) : Int) (u (flipB x (8 * (7 - k / 9) + k % 9))) (base0 4 tabs) σ w1 g1 g2 hF hxx g5 hloop g7 hk2 g9 g10 hk1 g12 g13 (fun σ => by rw [hov3, hV]) g15 g16 g17 hcc h10 (beq_iff_eq.2 hx) hlen1
        exact pureR t16_ok fns16 this rfl (.bool _)
      · have hx1 : (c == 120) = false := beq_eq_false_iff_ne.2 hx
        by_cases hd : c = 46
        · have hcb : c.toNat.toUInt8 = 46 := by rw [hd]; rfl
          have hV : pV (str (chg x k c.toNat.toUInt8)) = .tuple #[.int .u64 (u (flipB x (8 * (7 - k / 9) + k % 9))), .int .i64 0] := by
            rw [chg_text x hk h9 (.inr hcb) hne]
            exact pV_text _
          have := law9_dot (u x) (textS x) _ a c 64 k ((k + 1 : Nat) : Int) (u (flipB x (8 * (7 - k / 9) + k % 9))) (base0 4 tabs) σ w1 g1 g2 hF hxx g5 hloop g7 hk2 g9 g10 hk1 g12 g13 (fun σ => by rw [hov3, hV]) g15 g16 g17 hcc h10 hx1 (beq_iff_eq.2 hd) hlen1
          exact pureR t16_ok fns16 this rfl (.bool _)
        · have hV : pV (str (chg x k c.toNat.toUInt8)) = .tuple #[.int .u64 0, .int .i64 8] := by
            refine pV_none (chg_none x hk hne fun h => ?_)
            rcases h.2 with h | h
            · exact hx (by rw [← hcu, h]; rfl)
            · exact hd (by rw [← hcu, h]; rfl)
          have := law9_other (u x) (textS x) _ a c 64 k ((k + 1 : Nat) : Int) (base0 4 tabs) σ w1 g1 g2 hF hxx g5 hloop g7 hk2 g9 g10 hk1 g12 g13 (fun σ => by rw [hov3, hV]) g15 g16 g17 hcc h10 hx1 (beq_eq_false_iff_ne.2 hd)
          exact pureR t16_ok fns16 this rfl (.bool _)
    · rw [if_neg h9] at hat
      have h10 : (chr (textS x) k != 10) = false := by rw [hchr, hat]; rfl
      have hV : pV (str (chg x k c.toNat.toUInt8)) = .tuple #[.int .u64 0, .int .i64 8] := pV_none (chg_none x hk hne fun h => h9 h.1)
      have := law9_line (u x) (textS x) _ a c 64 k ((k + 1 : Nat) : Int) (base0 4 tabs) σ w1 g1 g2 hF hxx g5 hloop g7 hk2 g9 g10 hk1 g12 g13 (fun σ => by rw [hov3, hV]) g15 g16 g17 hcc h10
      exact pureR t16_ok fns16 this rfl (.bool _)
theorem law9' (s a c : Int) (h0 : IntKind.u64.min ≤ s) (h1 : s ≤ IntKind.u64.max) (a0 : IntKind.u8.min ≤ a) (a1 : a ≤ IntKind.u8.max) (c0 : IntKind.u8.min ≤ c) (c1 : c ≤ IntKind.u8.max) : Pure Tryd.prog 4 tabs 9 [.int .u64 s, .int .u8 a, .int .u8 c] (.bool true) := by
  have b0 : (0 : Int) ≤ s := h0
  have b1 : s ≤ 18446744073709551615 := h1
  rw [u_of s b0 (by omega)]
  exact law9_all _ a c ⟨a0, a1⟩ ⟨c0, c1⟩
end Go.Proofs.YtakchekhpeokjaaDoor

/-
  BITBOARD (chapter 05): what the laws' rows share: the table's world, what the row's list gives.
-/
namespace Go.Proofs.YtakchekhpeokjaaDoor
open Go.Va Go.ChangeShapes Go.WideShapes Go.ChangeAt Go.RowKit

theorem own : ownKnob Tryd.prog.godebug = Option.none := by kernel_rfl
theorem fourth : ((((begin Tryd.prog (fun _ _ => 0) default).world.heap[3]?).bind Obj.row?).isSome) = true := by kernel_rfl
theorem globs : Tryd.prog.globals.size = 4 := by kernel_rfl
theorem gTab : Tryd.prog.globalNamed "math/bits.deBruijn64tab" = some 0 := by kernel_rfl
theorem gTabType : (Tryd.prog.globals[0]?).map (·.type) = some 80 := by kernel_rfl
theorem cells80 : Tryd.prog.cellsOf 80 = 64 := by kernel_rfl
theorem cells5 : Tryd.prog.cellsOf 5 = 1 := by kernel_rfl
def tabL : List Int := [0, 1, 56, 2, 57, 49, 28, 3, 61, 58, 42, 50, 38, 29, 17, 4, 62, 47, 59, 36, 45, 43, 51, 22, 53, 39, 33, 30, 24, 18, 12, 5, 63, 55, 48, 27, 60, 41, 37, 16, 46, 35, 44, 21, 52, 32, 23, 11, 54, 26, 40, 15, 34, 20, 31, 10, 25, 14, 19, 9, 13, 8, 7, 6]

theorem table {W : World} (h : laidMetH Tryd.prog [("math/bits.deBruijn64tab", Rows.laid_math_bits_deBruijn64tab)] W) : Lib.TabIs Tryd.prog W "math/bits.deBruijn64tab" .u8 tabL :=
  Lib.tabIs_of_head (rest := []) gTab gTabType Tryd.underlying80 Tryd.underlying5 cells5 cells80 h

theorem tabs_of {W : World} (h : W.ShapedOpen Tryd.prog) (hL : laidMetH Tryd.prog [("math/bits.deBruijn64tab", Rows.laid_math_bits_deBruijn64tab)] W) : Tabs 4 tabs W := by
  obtain ⟨h1, _⟩ := h
  have h3 := fourth
  rw [Option.isSome_iff_exists] at h3
  obtain ⟨⟨zero, t⟩, h3⟩ := h3
  obtain ⟨cs, h4, _⟩ := h1 3 zero t (by rw [globs]; decide) h3
  rw [Array.getElem?_eq_some_iff] at h4
  obtain ⟨h5, _⟩ := h4
  have ht := table hL
  refine ⟨by omega, fun x hx => ?_⟩
  have hx : x = (0, tabL.map fun n => Value.int .u8 n) := by
    have : tabs = [(0, tabL.map fun n => Value.int .u8 n)] := rfl
    rw [this] at hx
    simpa using hx
  subst hx
  have cell : ∀ i (hi : i < tabL.length), W.cell? ⟨0, i, none⟩ = some (.int .u8 tabL[i]) := fun i hi => by
    have := ht.cell gTab i hi
    rw [List.getD_eq_getElem?_getD, List.getElem?_eq_getElem hi] at this
    exact this
  have h0 := cell 0 (by decide)
  unfold World.cell? at h0
  dsimp only at h0
  cases hh : W.heap[0]? with
  | none => rw [hh] at h0; cases h0
  | some o =>
    cases o with
    | cells C ty fr =>
      refine ⟨C, ty, fr, rfl, fun i hi => ?_⟩
      have hi' : i < tabL.length := by simpa using hi
      have := cell i hi'
      unfold World.cell? at this
      dsimp only at this
      rw [hh] at this
      simpa using this
    | _ => rw [hh] at h0; cases h0

def lay (c : Array Value) : Obj → Obj
  | .cells _ t frozen => .cells c t frozen
  | o => o
/-- A WORLD FOR THE WITNESS: the settled one, with the table in its block. -/
noncomputable def laidWorld (os : Os) : World :=
  { World.holding Tryd.prog os ⟨#[], #[], []⟩ with heap := (World.holding Tryd.prog os ⟨#[], #[], []⟩).heap.modify 0 (lay (tabL.map fun n => Value.int .u8 n).toArray) }

end Go.Proofs.YtakchekhpeokjaaDoor

/-
  BITBOARD (chapter 05): what the rows share whose code names the tables of unicode/utf8, too.
-/
namespace Go.Proofs.YtakchekhpeokjaaDoor
open Go.Va Go.ChangeShapes Go.WideShapes Go.ChangeAt Go.RowKit

abbrev laid3 : List (String × DataW Unit) := [("math/bits.deBruijn64tab", Rows.laid_math_bits_deBruijn64tab), ("unicode/utf8.acceptRanges", Rows.laid_unicode_utf8_acceptRanges), ("unicode/utf8.first", Rows.laid_unicode_utf8_first)]
theorem table3 {W : World} (h : laidMetH Tryd.prog laid3 W) : Lib.TabIs Tryd.prog W "math/bits.deBruijn64tab" .u8 tabL :=
  Lib.tabIs_of_head gTab gTabType Tryd.underlying80 Tryd.underlying5 cells5 cells80 h

theorem tabs_of3 {W : World} (h : W.ShapedOpen Tryd.prog) (hL : laidMetH Tryd.prog laid3 W) : Tabs 4 tabs W := by
  obtain ⟨h1, _⟩ := h
  have h3 := fourth
  rw [Option.isSome_iff_exists] at h3
  obtain ⟨⟨zero, t⟩, h3⟩ := h3
  obtain ⟨cs, h4, _⟩ := h1 3 zero t (by rw [globs]; decide) h3
  rw [Array.getElem?_eq_some_iff] at h4
  obtain ⟨h5, _⟩ := h4
  have ht := table3 hL
  refine ⟨by omega, fun x hx => ?_⟩
  have hx : x = (0, tabL.map fun n => Value.int .u8 n) := by
    have : tabs = [(0, tabL.map fun n => Value.int .u8 n)] := rfl
    rw [this] at hx
    simpa using hx
  subst hx
  have cell : ∀ i (hi : i < tabL.length), W.cell? ⟨0, i, none⟩ = some (.int .u8 tabL[i]) := fun i hi => by
    have := ht.cell gTab i hi
    rw [List.getD_eq_getElem?_getD, List.getElem?_eq_getElem hi] at this
    exact this
  have h0 := cell 0 (by decide)
  unfold World.cell? at h0
  dsimp only at h0
  cases hh : W.heap[0]? with
  | none => rw [hh] at h0; cases h0
  | some o =>
    cases o with
    | cells C ty fr =>
      refine ⟨C, ty, fr, rfl, fun i hi => ?_⟩
      have hi' : i < tabL.length := by simpa using hi
      have := cell i hi'
      unfold World.cell? at this
      dsimp only at this
      rw [hh] at this
      simpa using this
    | _ => rw [hh] at h0; cases h0

def acceptCells : Array Value := #[.int .u8 128, .int .u8 191, .int .u8 160, .int .u8 191, .int .u8 128, .int .u8 159, .int .u8 144, .int .u8 191, .int .u8 128, .int .u8 143,
  .int .u8 0, .int .u8 0, .int .u8 0, .int .u8 0, .int .u8 0, .int .u8 0, .int .u8 0, .int .u8 0, .int .u8 0, .int .u8 0, .int .u8 0, .int .u8 0, .int .u8 0, .int .u8 0, .int .u8 0, .int .u8 0, .int .u8 0, .int .u8 0, .int .u8 0, .int .u8 0, .int .u8 0, .int .u8 0]

def litOf : DataW Unit → Value
  | .lit (.int k n) => .int k n
  | _ => .bool false
def litsOf : DataW Unit → List Value
  | .agg ds => ds.map litOf
  | _ => []
/-- A WORLD FOR THE WITNESS: the settled one, with the tables in their blocks. -/
noncomputable def laidWorld3 (os : Os) : World :=
  { World.holding Tryd.prog os ⟨#[], #[], []⟩ with heap := (((World.holding Tryd.prog os ⟨#[], #[], []⟩).heap.modify 0 (lay (tabL.map fun n => Value.int .u8 n).toArray)).modify 2 (lay (litsOf Rows.laid_unicode_utf8_first).toArray)).modify 3 (lay acceptCells) }

end Go.Proofs.YtakchekhpeokjaaDoor
