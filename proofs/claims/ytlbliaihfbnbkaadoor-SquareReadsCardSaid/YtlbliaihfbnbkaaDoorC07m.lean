/-
  SQUARE (chapter 07): SquareNames and SquareReads are true.
-/
import Derived.Test.YtlbliaihfbnbkaaDoorC07k
namespace Go.Proofs.YtlbliaihfbnbkaaDoor
open Go.Va

/-- What is said of a name, of one square. -/
def nameSaid (s : Int) : Bool :=
  (okOr (inB s) != 0) == false && (formOr (parseB (nameS s)) != 0) == false && (parseI (nameS s) != s) == false && decide ((nameS s).size = 2) &&
    (okOr (atB (IntKind.i64.wrap (IntKind.u8.wrap (((nameS s).data.toList.getD (Int.toNat 0) 0).toNat - 97))) (IntKind.i64.wrap (IntKind.u8.wrap (((nameS s).data.toList.getD (Int.toNat 1) 0).toNat - 49)))) == 0) &&
    (atS (IntKind.i64.wrap (IntKind.u8.wrap (((nameS s).data.toList.getD (Int.toNat 0) 0).toNat - 97))) (IntKind.i64.wrap (IntKind.u8.wrap (((nameS s).data.toList.getD (Int.toNat 1) 0).toNat - 49))) == s) &&
    (fileS s == IntKind.i64.wrap (IntKind.u8.wrap (((nameS s).data.toList.getD (Int.toNat 0) 0).toNat - 97))) &&
    (rankS s == IntKind.i64.wrap (IntKind.u8.wrap (((nameS s).data.toList.getD (Int.toNat 1) 0).toNat - 49)))
theorem nameSaid_all : ((List.range 64).all fun a => nameSaid a) = true := by decide +kernel

theorem mod64 {a : Int} (h0 : 0 ≤ a) : ∃ k : Nat, k < 64 ∧ IntKind.i64.wrap (a.tmod 64) = k := by
  have : a.tmod 64 = a % 64 := Int.tmod_eq_emod_of_nonneg h0
  refine ⟨(a % 64).toNat, by omega, ?_⟩
  rw [this, wrap64 (by omega) (by omega)]
  omega

theorem law5 (a b : Int) (h0 : 0 ≤ a) (h1 : 0 ≤ b) : Pure Tryd.prog 3 [] 5 [.int .u8 a, .int .u8 b] (.bool true) := by
  obtain ⟨k, hk, hs⟩ := mod64 h0
  obtain ⟨m, hm, ht⟩ := mod64 h1
  have hf : nameSaid k = true := List.all_eq_true.1 nameSaid_all k (List.mem_range.2 hk)
  have hg : nameSaid m = true := List.all_eq_true.1 nameSaid_all m (List.mem_range.2 hm)
  rw [← hs] at hf
  rw [← ht] at hg
  simp only [nameSaid, Bool.and_eq_true, beq_iff_eq, decide_eq_true_eq] at hf hg
  obtain ⟨⟨⟨⟨⟨⟨⟨f1, f2⟩, f3⟩, f4⟩, f5⟩, f6⟩, f7⟩, f8⟩ := hf
  obtain ⟨⟨⟨⟨⟨⟨⟨g1, g2⟩, g3⟩, g4⟩, g5⟩, g6⟩, g7⟩, g8⟩ := hg
  have hsz : (((nameS (IntKind.i64.wrap (a.tmod 64))).size : Nat) : Int) = 2 := by rw [f4]; rfl
  have hxy : (!(((nameS (IntKind.i64.wrap (a.tmod 64))).toList == (nameS (IntKind.i64.wrap (b.tmod 64))).toList) == (IntKind.i64.wrap (a.tmod 64) == IntKind.i64.wrap (b.tmod 64)))) = false := by
    have e : ((nameS (IntKind.i64.wrap (a.tmod 64))).toList == (nameS (IntKind.i64.wrap (b.tmod 64))).toList) = (IntKind.i64.wrap (a.tmod 64) == IntKind.i64.wrap (b.tmod 64)) := by
      cases hb : (IntKind.i64.wrap (a.tmod 64) == IntKind.i64.wrap (b.tmod 64)) with
      | true => rw [beq_iff_eq] at hb; rw [hb]; exact beq_self_eq_true _
      | false =>
        rw [beq_eq_false_iff_ne] at hb ⊢
        intro h
        rw [ByteArray.toList_eq, ByteArray.toList_eq] at h
        have h := ba_ext h
        rw [bne_eq_false_iff_eq] at f3 g3
        exact hb (by rw [← f3, h, g3])
    rw [e, beq_self_eq_true]; rfl
  exact pureB (n := 100) [(32, .br false), (3, .br false), (3, .br false), (4, .br false), (8, .br false), (4, .br false), (1, .ok), (3, .ok), (14, .br true), (4, .br true), (5, .br true), (5, .br true)]
    [_, _, _, _, _, ((((nameS (IntKind.i64.wrap (a.tmod 64))).size : Nat) : Int) != 2) = false, 0 ≤ (0 : Int) ∧ (0 : Int) < (nameS (IntKind.i64.wrap (a.tmod 64))).size, 0 ≤ (1 : Int) ∧ (1 : Int) < (nameS (IntKind.i64.wrap (a.tmod 64))).size, _, _, _, _]
    (by kernel_rfl) ⟨f1, g1, f2, f3, hxy, by rw [hsz]; rfl, ⟨by omega, by omega⟩, ⟨by omega, by omega⟩, beq_iff_eq.2 f5, beq_iff_eq.2 f6, beq_iff_eq.2 f7, beq_iff_eq.2 f8⟩ rfl rfl

theorem formOr_false : formOr false = 8 := rfl

theorem law6 (s : ByteArray) : Pure Tryd.prog 3 [] 6 [.string s] (.bool true) := by
  cases hsz : decide ((s.size : Int) > 100) with
  | true => exact pureB (n := 100) [(4, .br true)] [decide ((s.size : Int) > 100) = true] (by kernel_rfl) hsz rfl rfl
  | false =>
    cases hb : parseB s with
    | true =>
      obtain ⟨h0, h1, hs⟩ := name_parse hb
      have hn : nm s (parseI s) = true := (nm_iff s h0 h1).2 hs
      exact pureB (n := 100) [(4, .br false), (9, .br false), (10, .br true), (3, .br true)]
        [decide ((s.size : Int) > 100) = false, (formOr (parseB s) != 0) = false, ((nameS (parseI s)).toList == s.toList) = true, (okOr (inB (parseI s)) == 0) = true] (by kernel_rfl)
        ⟨hsz, by rw [hb]; rfl, hn, by rw [inB_true h0 h1]; rfl⟩ rfl rfl
    | false =>
      have e1 : (formOr (parseB s) != 0) = true := by rw [hb]; rfl
      have e2 : (formOr (parseB s) == 8) = true := by rw [hb]; rfl
      have e3 : (parseI s == 0) = true := by
        unfold parseB at hb
        unfold parseI
        split at hb
        · rename_i a b hs; rw [hb]; rfl
        · rfl
      cases h2 : ((s.size : Int) == 2) with
      | false =>
        exact pureB (n := 100) [(4, .br false), (9, .br true), (3, .br false), (10, .br true), (3, .br true)]
          [decide ((s.size : Int) > 100) = false, (formOr (parseB s) != 0) = true, ((s.size : Int) == 2) = false, (formOr (parseB s) == 8) = true, (parseI s == 0) = true] (by kernel_rfl)
          ⟨hsz, e1, h2, e2, e3⟩ rfl rfl
      | true =>
        have hl : s.data.toList.length = 2 := by rw [beq_iff_eq] at h2; have : s.data.size = s.size := rfl; simp only [Array.length_toList]; omega
        obtain ⟨x, y, hs⟩ : ∃ x y, s.data.toList = [x, y] := by
          match hd : s.data.toList, hl with
          | [x, y], _ => exact ⟨x, y, rfl⟩
        have hz : (s.size : Int) = 2 := by simpa using h2
        have g0 : 0 ≤ (0 : Int) ∧ (0 : Int) < s.size := ⟨by omega, by omega⟩
        have g1 : 0 ≤ (1 : Int) ∧ (1 : Int) < s.size := ⟨by omega, by omega⟩
        have x0 : s.data.toList.getD (Int.toNat 0) 0 = x := by rw [hs]; rfl
        have y0 : s.data.toList.getD (Int.toNat 1) 0 = y := by rw [hs]; rfl
        have hno : okBytes x y = false := by unfold parseB at hb; rw [hs] at hb; exact hb
        cases c1 : decide (((s.data.toList.getD (Int.toNat 0) 0).toNat : Int) ≥ 97) with
        | false =>
          exact pureB (n := 100) [(4, .br false), (9, .br true), (3, .br true), (1, .ok), (2, .br false), (8, .br true), (3, .br true)]
            [_, _, _, _, decide (((s.data.toList.getD (Int.toNat 0) 0).toNat : Int) ≥ 97) = false, _, _] (by kernel_rfl) ⟨hsz, e1, h2, g0, c1, e2, e3⟩ rfl rfl
        | true =>
          cases c2 : decide (((s.data.toList.getD (Int.toNat 0) 0).toNat : Int) ≤ 104) with
          | false =>
            exact pureB (n := 100) [(4, .br false), (9, .br true), (3, .br true), (1, .ok), (2, .br true), (1, .ok), (2, .br false), (6, .br true), (3, .br true)]
              [_, _, _, _, decide (((s.data.toList.getD (Int.toNat 0) 0).toNat : Int) ≥ 97) = true, _, _, _, _] (by kernel_rfl) ⟨hsz, e1, h2, g0, c1, g0, c2, e2, e3⟩ rfl rfl
          | true =>
            cases c3 : decide (((s.data.toList.getD (Int.toNat 1) 0).toNat : Int) ≥ 49) with
            | false =>
              exact pureB (n := 100) [(4, .br false), (9, .br true), (3, .br true), (1, .ok), (2, .br true), (1, .ok), (2, .br true), (1, .ok), (2, .br false), (4, .br true), (3, .br true)]
                [_, _, _, _, _, _, _, _, _, _, _] (by kernel_rfl) ⟨hsz, e1, h2, g0, c1, g0, c2, g1, c3, e2, e3⟩ rfl rfl
            | true =>
              have c4 : (!decide (((s.data.toList.getD (Int.toNat 1) 0).toNat : Int) ≤ 56)) = true := by
                rw [x0] at c1 c2
                rw [y0] at c3 ⊢
                simp only [decide_eq_true_eq] at c1 c2 c3
                cases ho : decide ((y.toNat : Int) ≤ 56) with
                | false => rfl
                | true =>
                  rw [decide_eq_true_eq] at ho
                  have : okBytes x y = true := okBytes_iff.2 (by omega)
                  rw [hno] at this; cases this
              exact pureB (n := 100) [(4, .br false), (9, .br true), (3, .br true), (1, .ok), (2, .br true), (1, .ok), (2, .br true), (1, .ok), (2, .br true), (1, .ok), (5, .br true), (3, .br true), (3, .br true)]
                [_, _, _, _, _, _, _, _, _, _, _, _, _] (by kernel_rfl) ⟨hsz, e1, h2, g0, c1, g0, c2, g1, c3, g1, e2, e3, c4⟩ rfl rfl

theorem law5' (a b : Int) (h0 : IntKind.u8.min ≤ a) (_ : a ≤ IntKind.u8.max) (h1 : IntKind.u8.min ≤ b) (_ : b ≤ IntKind.u8.max) : Pure Tryd.prog 3 [] 5 [.int .u8 a, .int .u8 b] (.bool true) := law5 a b h0 h1
theorem law6' (s : ByteArray) : Pure Tryd.prog 3 [] 6 [.string s] (.bool true) := law6 s

end Go.Proofs.YtlbliaihfbnbkaaDoor
