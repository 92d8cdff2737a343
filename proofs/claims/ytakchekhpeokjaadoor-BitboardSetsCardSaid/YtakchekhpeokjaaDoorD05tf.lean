/-
  BITBOARD (chapter 05): BitboardSets is true.
-/
import Derived.Test.YtakchekhpeokjaaDoorD05te
import Derived.Test.YtakchekhpeokjaaDoorD05l
namespace Go.Proofs.YtakchekhpeokjaaDoor
open Go.Va

def kU (g : BitVec 64 → Value) : List Value → Option Value
  | [.int .u64 s] => bif inU s then some (g (BitVec.ofInt 64 s)) else none
  | _ => none
theorem kU_u (g : BitVec 64 → Value) (x : BitVec 64) : kU g [.int .u64 (u x)] = some (g x) := by
  unfold kU
  dsimp only
  rw [inU_u, cond_true, show BitVec.ofInt 64 (u x) = x from ofInt_u x]
theorem kU_ok {f : FuncId} {g : BitVec 64 → Value} (hp : ∀ x, Pure Tryd.prog 4 tabs f [.int .u64 (u x)] (g x)) : KOk Tryd.prog 4 tabs f (kU g) := KOk_u hp fun args v h => by
  unfold kU at h
  split at h
  · rename_i s
    cases hs : inU s with
    | false => rw [hs] at h; cases h
    | true => rw [hs] at h; cases h; exact ⟨s, rfl, hs, rfl⟩
  · cases h
def kUI (g : BitVec 64 → Int → Value) : List Value → Option Value
  | [.int .u64 s, .int .i64 n] => bif inU s then some (g (BitVec.ofInt 64 s) n) else none
  | _ => none
theorem kUI_u (g : BitVec 64 → Int → Value) (x : BitVec 64) (n : Int) : kUI g [.int .u64 (u x), .int .i64 n] = some (g x n) := by
  unfold kUI
  dsimp only
  rw [inU_u, cond_true, show BitVec.ofInt 64 (u x) = x from ofInt_u x]
theorem kUI_ok {f : FuncId} {g : BitVec 64 → Int → Value} (hp : ∀ x n, Pure Tryd.prog 4 tabs f [.int .u64 (u x), .int .i64 n] (g x n)) : KOk Tryd.prog 4 tabs f (kUI g) := by
  intro args v h
  unfold kUI at h
  split at h
  · rename_i s n
    cases hs : inU s with
    | false => rw [hs] at h; cases h
    | true =>
      rw [hs] at h; cases h
      have := hp (BitVec.ofInt 64 s) n
      rw [← ofInt_inU hs] at this
      exact this
  · cases h
def inI (n : Int) : Bool := decide (-9223372036854775808 ≤ n) && decide (n ≤ 9223372036854775807)
theorem inI_of {n : Int} (h : -9223372036854775808 ≤ n ∧ n ≤ 9223372036854775807) : inI n = true := by
  unfold inI
  rw [decide_eq_true h.1, decide_eq_true h.2]; rfl
theorem of_inI {n : Int} (h : inI n = true) : -9223372036854775808 ≤ n ∧ n ≤ 9223372036854775807 := by
  unfold inI at h
  simp only [Bool.and_eq_true, decide_eq_true_eq] at h
  exact h
def kSh : List Value → Option Value
  | [.int .u64 s, .int .i64 f, .int .i64 r] => bif inU s && inI f && inI r then some (.int .u64 (shiftS s f r)) else none
  | _ => none
theorem kSh_u (x : BitVec 64) {f r : Int} (hf : -9223372036854775808 ≤ f ∧ f ≤ 9223372036854775807) (hr : -9223372036854775808 ≤ r ∧ r ≤ 9223372036854775807) : kSh [.int .u64 (u x), .int .i64 f, .int .i64 r] = some (.int .u64 (shiftS (u x) f r)) := by
  unfold kSh
  dsimp only
  rw [inU_u, inI_of hf, inI_of hr]; rfl
theorem kSh_ok {g : FuncId} (hp : ∀ (x : BitVec 64) (f r : Int), -9223372036854775808 ≤ f ∧ f ≤ 9223372036854775807 → -9223372036854775808 ≤ r ∧ r ≤ 9223372036854775807 → Pure Tryd.prog 4 tabs g [.int .u64 (u x), .int .i64 f, .int .i64 r] (.int .u64 (shiftS (u x) f r))) : KOk Tryd.prog 4 tabs g kSh := by
  intro args v h
  unfold kSh at h
  split at h
  · rename_i s f r
    cases hs : (inU s && inI f && inI r) with
    | false => rw [hs] at h; cases h
    | true =>
      rw [hs] at h; cases h
      simp only [Bool.and_eq_true] at hs
      have := hp (BitVec.ofInt 64 s) f r (of_inI hs.1.2) (of_inI hs.2)
      rw [← ofInt_inU hs.1.1] at this
      exact this
  · cases h

noncomputable def t13 : Ktab := (11, kSh) :: (27, kSh) :: (18, kUI fun x n => withV (u x) n) :: (20, kUI fun x n => wioV (u x) n) :: (22, kU lowV) :: (25, kU fun x => .int .i64 ((bitsL x).length : Int)) :: (29, kU fun x => .int .u64 (rbS (u x))) :: (31, kU fun x => .int .u64 (rbS (rvS (u x)))) ::
  (32, kU fun x => .string (textS x)) :: (33, kU fun x => .string (textS x)) :: t12
theorem t13_ok : TOk Tryd.prog 4 tabs t13 :=
  ⟨kSh_ok fun x f r hf hr => p11 (u x) f r hf hr, kSh_ok p27, kUI_ok p18, kUI_ok p20, kU_ok p22, kU_ok p25, kU_ok p29, kU_ok p31, kU_ok p32, kU_ok p33, t12_ok⟩
noncomputable def env13 : Env := envT t13
set_option maxRecDepth 100000 in
theorem fns13 : fnB Tryd.prog 4 env13 okL = true := by kernel_rfl
section
variable (x : BitVec 64) (n : Int) (lim : Nat) (σ : AS)
theorem ov13_11 {f r : Int} (hf : -9223372036854775808 ≤ f ∧ f ≤ 9223372036854775807) (hr : -9223372036854775808 ≤ r ∧ r ≤ 9223372036854775807) : env13.ov 11 [.int .u64 (u x), .int .i64 f, .int .i64 r] lim σ = some (.int .u64 (shiftS (u x) f r), σ) :=
  envK rfl rfl rfl rfl (by unfold t13; rw [pfT_eq]; exact kSh_u x hf hr)
theorem ov13_27 {f r : Int} (hf : -9223372036854775808 ≤ f ∧ f ≤ 9223372036854775807) (hr : -9223372036854775808 ≤ r ∧ r ≤ 9223372036854775807) : env13.ov 27 [.int .u64 (u x), .int .i64 f, .int .i64 r] lim σ = some (.int .u64 (shiftS (u x) f r), σ) :=
  envK rfl rfl rfl rfl (by unfold t13; rw [pfT_ne rfl, pfT_eq]; exact kSh_u x hf hr)
theorem ov13_18 : env13.ov 18 [.int .u64 (u x), .int .i64 n] lim σ = some (withV (u x) n, σ) :=
  envK rfl rfl rfl rfl (by unfold t13; iterate 2 rw [pfT_ne rfl]
                           rw [pfT_eq]; exact kUI_u _ x n)
theorem ov13_20 : env13.ov 20 [.int .u64 (u x), .int .i64 n] lim σ = some (wioV (u x) n, σ) :=
  envK rfl rfl rfl rfl (by unfold t13; iterate 3 rw [pfT_ne rfl]
                           rw [pfT_eq]; exact kUI_u _ x n)
theorem ov13_22 : env13.ov 22 [.int .u64 (u x)] lim σ = some (lowV x, σ) :=
  envK rfl rfl rfl rfl (by unfold t13; iterate 4 rw [pfT_ne rfl]
                           rw [pfT_eq]; exact kU_u _ x)
theorem ov13_25 : env13.ov 25 [.int .u64 (u x)] lim σ = some (.int .i64 ((bitsL x).length : Int), σ) :=
  envK rfl rfl rfl rfl (by unfold t13; iterate 5 rw [pfT_ne rfl]
                           rw [pfT_eq]; exact kU_u (fun x => .int .i64 ((bitsL x).length : Int)) x)
theorem ov13_29 : env13.ov 29 [.int .u64 (u x)] lim σ = some (.int .u64 (rbS (u x)), σ) :=
  envK rfl rfl rfl rfl (by unfold t13; iterate 6 rw [pfT_ne rfl]
                           rw [pfT_eq]; exact kU_u (fun x => .int .u64 (rbS (u x))) x)
theorem ov13_31 : env13.ov 31 [.int .u64 (u x)] lim σ = some (.int .u64 (rbS (rvS (u x))), σ) :=
  envK rfl rfl rfl rfl (by unfold t13; iterate 7 rw [pfT_ne rfl]
                           rw [pfT_eq]; exact kU_u (fun x => .int .u64 (rbS (rvS (u x)))) x)
theorem ov13_32 : env13.ov 32 [.int .u64 (u x)] lim σ = some (.string (textS x), σ) :=
  envK rfl rfl rfl rfl (by unfold t13; iterate 8 rw [pfT_ne rfl]
                           rw [pfT_eq]; exact kU_u (fun x => .string (textS x)) x)
theorem ov13_33 : env13.ov 33 [.int .u64 (u x)] lim σ = some (.string (textS x), σ) :=
  envK rfl rfl rfl rfl (by unfold t13; iterate 9 rw [pfT_ne rfl]
                           rw [pfT_eq]; exact kU_u (fun x => .string (textS x)) x)
theorem ov13_26 : env13.ov 26 [.int .u64 (u x)] lim σ = some (lstV (bitsL x), σ) :=
  envK rfl rfl rfl rfl (by unfold t13 t12 t11; iterate 11 rw [pfT_ne rfl]
                           rw [pfT_eq]; exact k15_u x)
theorem ov13_15 : env13.ov 15 [.int .u64 (u x)] lim σ = some (lstV (bitsL x), σ) :=
  envK rfl rfl rfl rfl (by unfold t13 t12 t11 t10; iterate 13 rw [pfT_ne rfl]
                           rw [pfT_eq]; exact k15_u x)
theorem ov13_23 : env13.ov 23 [.int .u64 (u x), .int .i64 n] lim σ = some (.bool (hasS (u x) n), σ) :=
  envK rfl rfl rfl rfl (by unfold t13 t12 t11 t10 t9; iterate 14 rw [pfT_ne rfl]
                           rw [pfT_eq]; unfold k23; dsimp only; rw [inU_u, cond_true])
theorem pf13_16 (args : List Value) : pfT t13 16 args = k16 args := by
  unfold t13 t12 t11 t10 t9 t8; iterate 15 rw [pfT_ne rfl]
  rw [pfT_eq]
theorem ov13_21 : env13.ov 21 [.int .u64 (u x)] lim σ = some (lowV x, σ) :=
  envK rfl rfl rfl rfl (by unfold t13 t12 t11 t10 t9 t8; iterate 16 rw [pfT_ne rfl]
                           rw [pfT_eq]; exact k21_u x)
end

def hints5 (x : BitVec 64) (n f r : Int) (V : Value) : List (Nat × Hint) :=
  [(15, .ov (withV (u x) n)), (15, .ov (wioV (u x) n)), (6, .ov (lowV x)), (6, .ov (lowV x)), (7, .br true), (3, .br true), (4, .br true), (4, .br true), (4, .br true), (4, .br true), (7, .ov (.bool (hasS (u x) n))), (0, .br true),
    (5, .ov (.int .i64 ((bitsL x).length : Int))), (0, .br true), (3, .ov V), (1, .ov V), (0, .ov (.bool true)), (5, .ov (.int .u64 (shiftS (u x) f r))), (3, .ov (.int .u64 (shiftS (u x) f r))), (0, .br true),
    (5, .ov (.int .u64 (rbS (u x)))), (0, .br true), (5, .ov (.int .u64 (rbS (rvS (u x))))), (0, .br true), (3, .ov (.string (textS x))), (1, .ov (.string (textS x))), (0, .br true)]
theorem law5_nil (x : BitVec 64) (n f r : Int) (hf : -9223372036854775808 ≤ f ∧ f ≤ 9223372036854775807) (hr : -9223372036854775808 ≤ r ∧ r ≤ 9223372036854775807)
    (h15 : ∀ σ, env13.ov 15 [.int .u64 (u x)] 0 σ = some (.slice none 0 0, σ)) (h26 : ∀ σ, env13.ov 26 [.int .u64 (u x)] 0 σ = some (.slice none 0 0, σ)) (h16 : ∀ σ, env13.ov 16 [.slice none 0 0, .slice none 0 0] 0 σ = some (.bool true, σ)) :
    Pure Tryd.prog 4 tabs 5 [.int .u64 (u x), .int .i64 n, .int .i64 f, .int .i64 r] (.bool true) :=
  pureT t13_ok fns13 (n := 1000) (v := .bool true) (hints5 x n f r (.slice none 0 0))
    [(∀ σ, env13.ov 18 [.int .u64 (u x), .int .i64 n] 0 σ = some (withV (u x) n, σ)), (∀ σ, env13.ov 20 [.int .u64 (u x), .int .i64 n] 0 σ = some (wioV (u x) n, σ)), (∀ σ, env13.ov 21 [.int .u64 (u x)] 0 σ = some (lowV x, σ)), (∀ σ, env13.ov 22 [.int .u64 (u x)] 0 σ = some (lowV x, σ)),
      (withS (u x) n == withS (u x) n) = true, (okOr (inr n 64) == okOr (inr n 64)) = true, (wioS (u x) n == wioS (u x) n) = true, (okOr (inr n 64) == okOr (inr n 64)) = true,
      ((bif x == 0#64 then 0 else (tz x : Int)) == (bif x == 0#64 then 0 else (tz x : Int))) = true, ((!(x == 0#64)) == (!(x == 0#64))) = true, (∀ σ, env13.ov 23 [.int .u64 (u x), .int .i64 n] 0 σ = some (.bool (hasS (u x) n), σ)), (hasS (u x) n == hasS (u x) n) = true,
      (∀ σ, env13.ov 25 [.int .u64 (u x)] 0 σ = some (.int .i64 ((bitsL x).length : Int), σ)), (lenS (u x) == ((bitsL x).length : Int)) = true, (∀ σ, env13.ov 15 [.int .u64 (u x)] 0 σ = some (.slice none 0 0, σ)), (∀ σ, env13.ov 26 [.int .u64 (u x)] 0 σ = some (.slice none 0 0, σ)), (∀ σ, env13.ov 16 [.slice none 0 0, .slice none 0 0] 0 σ = some (.bool true, σ)),
      (∀ σ, env13.ov 11 [.int .u64 (u x), .int .i64 f, .int .i64 r] 0 σ = some (.int .u64 (shiftS (u x) f r), σ)), (∀ σ, env13.ov 27 [.int .u64 (u x), .int .i64 f, .int .i64 r] 0 σ = some (.int .u64 (shiftS (u x) f r), σ)), (shiftS (u x) f r == shiftS (u x) f r) = true,
      (∀ σ, env13.ov 29 [.int .u64 (u x)] 0 σ = some (.int .u64 (rbS (u x)), σ)), (rbS (u x) == rbS (u x)) = true, (∀ σ, env13.ov 31 [.int .u64 (u x)] 0 σ = some (.int .u64 (rbS (rvS (u x))), σ)), (rbS (rvS (u x)) == rbS (rvS (u x))) = true,
      (∀ σ, env13.ov 32 [.int .u64 (u x)] 0 σ = some (.string (textS x), σ)), (∀ σ, env13.ov 33 [.int .u64 (u x)] 0 σ = some (.string (textS x), σ)), ((textS x).toList == (textS x).toList) = true] (by kernel_rfl)
    ⟨fun σ => ov13_18 x n 0 σ, fun σ => ov13_20 x n 0 σ, fun σ => ov13_21 x 0 σ, fun σ => ov13_22 x 0 σ, beq_self_eq_true _, beq_self_eq_true _, beq_self_eq_true _, beq_self_eq_true _, beq_self_eq_true _, beq_self_eq_true _, fun σ => ov13_23 x n 0 σ, beq_self_eq_true _,
      fun σ => ov13_25 x 0 σ, by rw [lenS_u]; exact beq_self_eq_true _, h15, h26, h16, fun σ => ov13_11 x 0 σ hf hr, fun σ => ov13_27 x 0 σ hf hr, beq_self_eq_true _, fun σ => ov13_29 x 0 σ, beq_self_eq_true _, fun σ => ov13_31 x 0 σ, beq_self_eq_true _,
      fun σ => ov13_32 x 0 σ, fun σ => ov13_33 x 0 σ, beq_self_eq_true _⟩ rfl (.bool true)
theorem law5_cons (x : BitVec 64) (n f r : Int) (hf : -9223372036854775808 ≤ f ∧ f ≤ 9223372036854775807) (hr : -9223372036854775808 ≤ r ∧ r ≤ 9223372036854775807)
    (h15 : ∀ σ, env13.ov 15 [.int .u64 (u x)] 0 σ = some (L (ints (bitsL x)) (bitsL x).length 1 0, σ)) (h26 : ∀ σ, env13.ov 26 [.int .u64 (u x)] 0 σ = some (L (ints (bitsL x)) (bitsL x).length 1 0, σ)) (h16 : ∀ σ, env13.ov 16 [L (ints (bitsL x)) (bitsL x).length 1 0, L (ints (bitsL x)) (bitsL x).length 1 0] 0 σ = some (.bool true, σ)) :
    Pure Tryd.prog 4 tabs 5 [.int .u64 (u x), .int .i64 n, .int .i64 f, .int .i64 r] (.bool true) :=
  pureT t13_ok fns13 (n := 1000) (v := .bool true) (hints5 x n f r (L (ints (bitsL x)) (bitsL x).length 1 0))
    [(∀ σ, env13.ov 18 [.int .u64 (u x), .int .i64 n] 0 σ = some (withV (u x) n, σ)), (∀ σ, env13.ov 20 [.int .u64 (u x), .int .i64 n] 0 σ = some (wioV (u x) n, σ)), (∀ σ, env13.ov 21 [.int .u64 (u x)] 0 σ = some (lowV x, σ)), (∀ σ, env13.ov 22 [.int .u64 (u x)] 0 σ = some (lowV x, σ)),
      (withS (u x) n == withS (u x) n) = true, (okOr (inr n 64) == okOr (inr n 64)) = true, (wioS (u x) n == wioS (u x) n) = true, (okOr (inr n 64) == okOr (inr n 64)) = true,
      ((bif x == 0#64 then 0 else (tz x : Int)) == (bif x == 0#64 then 0 else (tz x : Int))) = true, ((!(x == 0#64)) == (!(x == 0#64))) = true, (∀ σ, env13.ov 23 [.int .u64 (u x), .int .i64 n] 0 σ = some (.bool (hasS (u x) n), σ)), (hasS (u x) n == hasS (u x) n) = true,
      (∀ σ, env13.ov 25 [.int .u64 (u x)] 0 σ = some (.int .i64 ((bitsL x).length : Int), σ)), (lenS (u x) == ((bitsL x).length : Int)) = true, (∀ σ, env13.ov 15 [.int .u64 (u x)] 0 σ = some (L (ints (bitsL x)) (bitsL x).length 1 0, σ)), (∀ σ, env13.ov 26 [.int .u64 (u x)] 0 σ = some (L (ints (bitsL x)) (bitsL x).length 1 0, σ)), (∀ σ, env13.ov 16 [L (ints (bitsL x)) (bitsL x).length 1 0, L (ints (bitsL x)) (bitsL x).length 1 0] 0 σ = some (.bool true, σ)),
      (∀ σ, env13.ov 11 [.int .u64 (u x), .int .i64 f, .int .i64 r] 0 σ = some (.int .u64 (shiftS (u x) f r), σ)), (∀ σ, env13.ov 27 [.int .u64 (u x), .int .i64 f, .int .i64 r] 0 σ = some (.int .u64 (shiftS (u x) f r), σ)), (shiftS (u x) f r == shiftS (u x) f r) = true,
      (∀ σ, env13.ov 29 [.int .u64 (u x)] 0 σ = some (.int .u64 (rbS (u x)), σ)), (rbS (u x) == rbS (u x)) = true, (∀ σ, env13.ov 31 [.int .u64 (u x)] 0 σ = some (.int .u64 (rbS (rvS (u x))), σ)), (rbS (rvS (u x)) == rbS (rvS (u x))) = true,
      (∀ σ, env13.ov 32 [.int .u64 (u x)] 0 σ = some (.string (textS x), σ)), (∀ σ, env13.ov 33 [.int .u64 (u x)] 0 σ = some (.string (textS x), σ)), ((textS x).toList == (textS x).toList) = true] (by kernel_rfl)
    ⟨fun σ => ov13_18 x n 0 σ, fun σ => ov13_20 x n 0 σ, fun σ => ov13_21 x 0 σ, fun σ => ov13_22 x 0 σ, beq_self_eq_true _, beq_self_eq_true _, beq_self_eq_true _, beq_self_eq_true _, beq_self_eq_true _, beq_self_eq_true _, fun σ => ov13_23 x n 0 σ, beq_self_eq_true _,
      fun σ => ov13_25 x 0 σ, by rw [lenS_u]; exact beq_self_eq_true _, h15, h26, h16, fun σ => ov13_11 x 0 σ hf hr, fun σ => ov13_27 x 0 σ hf hr, beq_self_eq_true _, fun σ => ov13_29 x 0 σ, beq_self_eq_true _, fun σ => ov13_31 x 0 σ, beq_self_eq_true _,
      fun σ => ov13_32 x 0 σ, fun σ => ov13_33 x 0 σ, beq_self_eq_true _⟩ rfl (.bool true)
theorem ov13_16 {a : Value} {l : List Int} (lim : Nat) (σ : AS) (ea : strip a = a) (ha : IsZ a l) : env13.ov 16 [a, a] lim σ = some (.bool true, σ) := by
  refine envT_ov rfl rfl (pureOv_of ?_ ?_)
  · show (flatB 100 (strip a) && (flatB 100 (strip a) && true)) = true
    rw [ea, IsZ_flat ha]; rfl
  · show pfT t13 16 [strip a, strip a] = _
    rw [ea, pf13_16, k16_eq ha ha, beq_self_eq_true]
theorem law5' (s n f r : Int) (h0 : IntKind.u64.min ≤ s) (h1 : s ≤ IntKind.u64.max) (_ : IntKind.i64.min ≤ n) (_ : n ≤ IntKind.i64.max) (f0 : IntKind.i64.min ≤ f) (f1 : f ≤ IntKind.i64.max) (r0 : IntKind.i64.min ≤ r) (r1 : r ≤ IntKind.i64.max) :
    Pure Tryd.prog 4 tabs 5 [.int .u64 s, .int .i64 n, .int .i64 f, .int .i64 r] (.bool true) := by
  have a0 : (0 : Int) ≤ s := h0
  have a1 : s ≤ 18446744073709551615 := h1
  rw [u_of s a0 (by omega)]
  generalize BitVec.ofInt 64 s = x
  by_cases hx : bitsL x = []
  · have e : lstV (bitsL x) = .slice none 0 0 := by rw [hx]; rfl
    exact law5_nil x n f r ⟨f0, f1⟩ ⟨r0, r1⟩ (fun σ => by rw [← e]; exact ov13_15 x 0 σ) (fun σ => by rw [← e]; exact ov13_26 x 0 σ) fun σ => ov13_16 0 σ rfl IsZ_nil
  · have e : lstV (bitsL x) = L (ints (bitsL x)) (bitsL x).length 1 0 := by
      cases h : bitsL x with
      | nil => exact absurd h hx
      | cons a l => rfl
    have hl := bitsL_length x
    exact law5_cons x n f r ⟨f0, f1⟩ ⟨r0, r1⟩ (fun σ => by rw [← e]; exact ov13_15 x 0 σ) (fun σ => by rw [← e]; exact ov13_26 x 0 σ) fun σ => ov13_16 0 σ rfl (IsZ_L (l := bitsL x) rfl (Nat.zero_le 1) (by omega))
end Go.Proofs.YtakchekhpeokjaaDoor
