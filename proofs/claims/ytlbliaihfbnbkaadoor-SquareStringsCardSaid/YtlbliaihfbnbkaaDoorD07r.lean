/-
  SQUARE (chapter 07): SquareStrings is true.
-/
import Derived.Test.YtlbliaihfbnbkaaDoorD07q
namespace Go.Proofs.YtlbliaihfbnbkaaDoor
open Go.Va

def kL : List Value → Option Value
  | [.string s] => bif Nat.blt s.size 9999 then some (listV s) else none
  | _ => none
theorem kL_ok {f : FuncId} (hp : ∀ s : ByteArray, s.size < 9999 → Pure Tryd.prog 3 [] f [.string s] (listV s)) : KOk Tryd.prog 3 [] f kL := by
  intro args v h
  unfold kL at h
  split at h
  · rename_i s
    cases hb : Nat.blt s.size 9999 with
    | false => rw [hb] at h; cases h
    | true => rw [hb] at h; cases h; exact hp s (blt_iff.1 hb)
  · cases h
theorem kL_s {s : ByteArray} (h : s.size < 9999) : kL [.string s] = some (listV s) := by
  unfold kL
  dsimp only
  rw [blt_iff.2 h, cond_true]
noncomputable def t3 : Ktab := (25, kL) :: (26, kL) :: (27, k27) :: t2
theorem t3_ok : TOk Tryd.prog 3 [] t3 := ⟨kL_ok p25, kL_ok p26, p27, t2_ok⟩
noncomputable def envN : Env := envT t3
set_option maxRecDepth 100000 in
theorem fnsN : fnB Tryd.prog 3 envN okL = true := by kernel_rfl
theorem ovN_25 {s : ByteArray} (h : s.size < 9999) (lim : Nat) (σ : AS) : envN.ov 25 [.string s] lim σ = some (listV s, σ) := envK rfl rfl (by unfold t3; rw [pfT_eq]; exact kL_s h)
theorem ovN_26 {s : ByteArray} (h : s.size < 9999) (lim : Nat) (σ : AS) : envN.ov 26 [.string s] lim σ = some (listV s, σ) := envK rfl rfl (by unfold t3; rw [pfT_ne rfl, pfT_eq]; exact kL_s h)
theorem IsZ_flat {v : Value} {l : List Int} (h : IsZ v l) : flatB 100 v = true := by
  rcases h with ⟨e, _⟩ | ⟨g, hg, e, _⟩
  · rw [e]; rfl
  · rw [e]
    show Nat.ble g 1 = true
    exact Nat.ble_eq_true_of_le hg
/-- slices.Equal of lists that may grow. -/
theorem ovN_27 {a b a' b' : Value} {l m : List Int} (lim : Nat) (σ : AS) (ea : strip a = a') (eb : strip b = b') (ha : IsZ a' l) (hb : IsZ b' m) : envN.ov 27 [a, b] lim σ = some (.bool (l == m), σ) := by
  refine pureOv_of ?_ ?_
  · show (flatB 100 (strip a) && (flatB 100 (strip b) && true)) = true
    rw [ea, eb, IsZ_flat ha, IsZ_flat hb]; rfl
  · show pfT t3 27 [strip a, strip b] = _
    rw [ea, eb, show pfT t3 27 [a', b'] = k27 [a', b'] by unfold t3; rw [pfT_ne rfl, pfT_ne rfl, pfT_eq], k27_eq ha hb]

def hints4 (V W : Value) : List (Nat × Hint) := [(3, .br false), (16, .ov V), (6, .ov V), (7, .br true), (3, .br true), (4, .ov W)]
theorem law4_nil (s : ByteArray) (e : Int) (he : (e == e) = true) (hs : s.size ≤ 1000) (hl : listV s = .tuple #[.slice none 0 0, .int .i64 e]) : Pure Tryd.prog 3 [] 4 [.string s] (.bool true) :=
  pureT t3_ok fnsN (n := 100) (v := .bool true) ([(3, .br false), (16, .ov (.tuple #[.slice none 0 0, .int .i64 e])), (6, .ov (.tuple #[.slice none 0 0, .int .i64 e])), (7, .br true), (3, .br true), (4, .ov (.bool true)), (4, .br true)])
    [decide ((s.size : Int) > 1000) = false, (∀ σ, envN.ov 25 [.string s] 0 σ = some (.tuple #[.slice none 0 0, .int .i64 e], σ)), (∀ σ, envN.ov 26 [.string s] 0 σ = some (.tuple #[.slice none 0 0, .int .i64 e], σ)), (parseI s == parseI s) = true, (formOr (parseB s) == formOr (parseB s)) = true,
      (∀ σ, envN.ov 27 [.slice none 0 0, .slice none 0 0] 0 σ = some (.bool true, σ)), (e == e) = true] (by kernel_rfl)
    ⟨decide_eq_false (by omega), fun σ => by rw [ovN_25 (by omega), hl], fun σ => by rw [ovN_26 (by omega), hl], beq_self_eq_true _, beq_self_eq_true _, fun σ => ovN_27 (l := []) (m := []) 0 σ rfl rfl (.inl ⟨rfl, rfl, trivial⟩) (.inl ⟨rfl, rfl, trivial⟩), he⟩ rfl (.bool true)
theorem law4_list (s : ByteArray) (r : List Int) (hr : r.length < 99999) (hs : s.size ≤ 1000) (hl : listV s = .tuple #[L (zs r) r.length 1 0, .int .i64 0]) : Pure Tryd.prog 3 [] 4 [.string s] (.bool true) :=
  pureT t3_ok fnsN (n := 100) (v := .bool true) ([(3, .br false), (16, .ov (.tuple #[L (zs r) r.length 1 0, .int .i64 0])), (6, .ov (.tuple #[L (zs r) r.length 1 0, .int .i64 0])), (7, .br true), (3, .br true), (4, .ov (.bool true))])
    [decide ((s.size : Int) > 1000) = false, (∀ σ, envN.ov 25 [.string s] 0 σ = some (.tuple #[L (zs r) r.length 1 0, .int .i64 0], σ)), (∀ σ, envN.ov 26 [.string s] 0 σ = some (.tuple #[L (zs r) r.length 1 0, .int .i64 0], σ)), (parseI s == parseI s) = true, (formOr (parseB s) == formOr (parseB s)) = true,
      (∀ σ, envN.ov 27 [L (zs r) r.length 1 0, L (zs r) r.length 1 0] 0 σ = some (.bool true, σ))] (by kernel_rfl)
    ⟨decide_eq_false (by omega), fun σ => by rw [ovN_25 (by omega), hl], fun σ => by rw [ovN_26 (by omega), hl], beq_self_eq_true _, beq_self_eq_true _, fun σ => by
      have hz : IsZ (L (zs r) r.length 1 0) r := .inr ⟨0, by omega, rfl, by omega⟩
      rw [ovN_27 (a' := L (zs r) r.length 1 0) (b' := L (zs r) r.length 1 0) (l := r) (m := r) 0 σ rfl rfl hz hz, beq_self_eq_true]⟩ rfl (.bool true)
theorem goL_len : ∀ (ps : List (List UInt8)) (acc r : List Int), goL ps acc = some r → r.length ≤ acc.length + ps.length
  | [], acc, r, e => by cases e; simp
  | p :: ps, acc, r, e => by
    unfold goL at e
    cases hb : parseB (str p) with
    | false => rw [hb] at e; cases e
    | true =>
      rw [hb, cond_true] at e
      have := goL_len ps _ r e
      rw [List.length_append] at this
      simp at this ⊢
      omega
theorem pcs_len (c : UInt8) : ∀ l : List UInt8, (pcs c l).length ≤ l.length + 1
  | [] => by simp [pcs]
  | b :: l => by
    have := pcs_len c l
    unfold pcs
    cases b == c with
    | true => simp; omega
    | false =>
      rw [cond_false]
      split
      · simp
      · rename_i h; rw [h] at this; simp at this ⊢; omega
theorem law4' (s : ByteArray) : Pure Tryd.prog 3 [] 4 [.string s] (.bool true) := by
  by_cases hs : s.size ≤ 1000
  · by_cases he : s.data.toList = []
    · have hl : listV s = .tuple #[.slice none 0 0, .int .i64 0] := by
        unfold listV
        split
        · rfl
        · exact absurd he (by assumption)
      exact law4_nil s 0 rfl hs hl
    · have hl := listV_ne he
      cases hg : goL (pcs 44 s.data.toList) [] with
      | none => rw [hg] at hl; exact law4_nil s 8 rfl hs hl
      | some r =>
        rw [hg] at hl
        cases r with
        | nil => exact law4_nil s 0 rfl hs hl
        | cons x r =>
          refine law4_list s (x :: r) ?_ hs hl
          have h1 := goL_len _ _ _ hg
          have h2 := pcs_len 44 s.data.toList
          have h3 : s.data.toList.length = s.size := by show _ = s.data.size; simp
          simp only [List.length_nil] at h1
          omega
  · exact pureT t3_ok fnsN (n := 100) (v := .bool true) [(3, .br true)] [decide ((s.size : Int) > 1000) = true] (by kernel_rfl) (decide_eq_true (by omega)) rfl (.bool true)
end Go.Proofs.YtlbliaihfbnbkaaDoor
