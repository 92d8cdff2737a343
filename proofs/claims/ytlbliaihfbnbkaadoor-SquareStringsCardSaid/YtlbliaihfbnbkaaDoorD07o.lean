/-
  SQUARE (chapter 07): List: its rounds. Printed by gen07o.py.
-/
import Derived.Test.YtlbliaihfbnbkaaDoorD07n
namespace Go.Proofs.YtlbliaihfbnbkaaDoor
open Go.Va

def k44 : List Value → Option Value
  | [.string s, .string c] => bif veq1 (.string c) (.string ⟨#[44]⟩) then some (.int .i64 (Lib.indexByte s.data.toList 44)) else none
  | _ => none
theorem p44 : KOk Tryd.prog 3 [] 44 k44 := by
  intro args v h
  unfold k44 at h
  split at h
  · rename_i s c
    cases hb : veq1 (.string c) (.string ⟨#[44]⟩) with
    | false => rw [hb] at h; cases h
    | true =>
      rw [hb, cond_true] at h
      cases h
      have hc : Value.string c = .string ⟨#[44]⟩ := veq1_eq hb
      cases hc
      cases hs : ((⟨#[44]⟩ : ByteArray).toList == s.toList) with
      | true =>
        have e : s = ⟨#[44]⟩ := by
          have e := eq_of_beq hs
          rw [ByteArray.toList_eq, ByteArray.toList_eq] at e
          exact ba_ext e.symm
        rw [e]
        exact pureT t1_ok fnsL (n := 100) (v := .int .i64 0) [] [] (by kernel_rfl) trivial rfl (.int _ _)
      | false => exact pureT t1_ok fnsL (n := 100) (v := .int .i64 (Lib.indexByte s.data.toList 44)) [(13, .br false)] [((⟨#[44]⟩ : ByteArray).toList == s.toList) = false] (by kernel_rfl) hs rfl (.int _ _)
  · cases h
def t2 : Ktab := (44, k44) :: t1
theorem t2_ok : TOk Tryd.prog 3 [] t2 := ⟨p44, t1_ok⟩
def envM : Env := envT t2
set_option maxRecDepth 100000 in
theorem fnsM : fnB Tryd.prog 3 envM okL = true := by kernel_rfl
theorem ovM_44 (s : ByteArray) (lim : Nat) (σ : AS) : envM.ov 44 [.string s, .string ⟨#[44]⟩] lim σ = some (.int .i64 (Lib.indexByte s.data.toList 44), σ) :=
  envK rfl rfl (by unfold t2; rw [pfT_eq]; rfl)
theorem ovM_23 (s : ByteArray) (lim : Nat) (σ : AS) : envM.ov 23 [.string s] lim σ = some (parseV s, σ) :=
  envK rfl rfl (by unfold t2 t1; rw [pfT_ne rfl, pfT_ne rfl, pfT_eq]; rfl)

noncomputable def body42 : Code := codeOf Tryd.prog 42 [.r, .l, .b, .b]
noncomputable def rng25 : Code := codeOf Tryd.prog 25 [.r, .r, .r, .l, .r, .b]
noncomputable def asg25 : Code := match rng25 with
  | .rangeFunc _ _ a _ => a
  | _ => .skip
noncomputable def bod25 : Code := match rng25 with
  | .rangeFunc _ _ _ b => b
  | _ => .skip
def P (n : Nat) : Value := .pointer (some ⟨n, 0, none⟩)
def F42c : Value := .func (.func 42) #[] #[P 7, P 6, P 8]
noncomputable def lp25 (s : ByteArray) : Go.Loop :=
  { state := .ready, pending := none, fn := 25, tmps := #[.string s, undef, P 3, P 4, P 5, undef, undef, undef, .string s, .bool false, .string s, F42c, undef, undef, undef, undef, undef, undef, undef, undef, undef, undef, undef, undef, undef, undef],
    params := #[12], assign := asg25, body := bod25, defers := 9 }
/-- The heap in the loop; e: the error in its cell; o: the list. -/
noncomputable def ZB (s r : ByteArray) (e : Int) (o : Value) (lp : Go.Loop) : AS :=
  ((((((((base0 3 []).push (.cells [.slice none 0 0] true (none, some 33) none)).push (.cells [.int .i64 e] true (none, some 22) none)).push (.cells [o] true (none, some 33) none)).push (.cells [.string r] true (none, some 9) none)).push
    (.cells [.string ⟨#[44]⟩] true (none, some 9) none)).push (.cells [.int .i64 0] true (none, some 3) none)).push (.obj (.deferred (some [])))).push (.obj (.loop lp))
noncomputable def Z0 (s r : ByteArray) : AS := ZB s r 0 (.slice none 0 0) (lp25 s)
noncomputable def Z1 (s r : ByteArray) (c : List Value) (n : Nat) : AS := (ZB s r 0 (L c n 1 13) (lp25 s)).push (.tail c.length 1 3)
noncomputable def X0 (s r : ByteArray) : AS := ZB s r 8 (.slice none 0 0) { lp25 s with state := .done, pending := some .ret }
noncomputable def X1 (s r : ByteArray) (c : List Value) (n : Nat) : AS := (ZB s r 8 (L c n 1 13) { lp25 s with state := .done, pending := some .ret }).push (.tail c.length 1 3)
def T42 (w : Nat → Value) : List Value := fillT 52 [(0, .func (.yield 10) #[] #[]), (1, P 7), (2, P 6), (3, P 8)] w
def ad (i : Int) : Int := IntKind.i64.wrap (i + 0)
def ad1 (i : Int) : Int := IntKind.i64.wrap (i + 1)

theorem next42n (s r : ByteArray) (i n : Int) (w : Nat → Value) (h1 : ∀ σ, envM.ov 44 [.string r, .string ⟨#[44]⟩] 0 σ = some (.int .i64 i, σ)) (h2 : decide (i < 0) = false) (h3 : 0 ≤ ad i ∧ ad i ≤ r.size) (h4 : ∀ σ, envM.ov 23 [.string (r.extract 0 (ad i).toNat)] 0 σ = some (.tuple #[.int .i64 n, .int .i64 0], σ)) (h5 : 0 ≤ ad1 i ∧ ad1 i ≤ r.size) :
    ∃ w', runW Tryd.prog envM 0 (.code ⟨42, none⟩ body42 (T42 w) []) (Z0 s r) = some (.done .normal (T42 w') [], (Z1 s (r.extract (ad1 i).toNat r.size) [.int .i64 n] 1)) :=
  seg 100 [(2, .ov (.int .i64 i)), (2, .br false), (5, .ok), (6, .ov (.tuple #[.int .i64 n, .int .i64 0])), (20, .ok)] (m := 52) (js := [0, 1, 2, 3]) (vs := [.func (.yield 10) #[] #[], P 7, P 6, P 8]) (ob := [(∀ σ, envM.ov 44 [.string r, .string ⟨#[44]⟩] 0 σ = some (.int .i64 i, σ)), decide (i < 0) = false, 0 ≤ ad i ∧ ad i ≤ r.size, (∀ σ, envM.ov 23 [.string (r.extract 0 (ad i).toNat)] 0 σ = some (.tuple #[.int .i64 n, .int .i64 0], σ)), 0 ≤ ad1 i ∧ ad1 i ≤ r.size]) (by kernel_rfl) ⟨h1, h2, h3, h4, h5⟩
theorem bad42n (s r : ByteArray) (i : Int) (w : Nat → Value) (h1 : ∀ σ, envM.ov 44 [.string r, .string ⟨#[44]⟩] 0 σ = some (.int .i64 i, σ)) (h2 : decide (i < 0) = false) (h3 : 0 ≤ ad i ∧ ad i ≤ r.size) (h4 : ∀ σ, envM.ov 23 [.string (r.extract 0 (ad i).toNat)] 0 σ = some (.tuple #[.int .i64 0, .int .i64 8], σ)) :
    ∃ w', runW Tryd.prog envM 0 (.code ⟨42, none⟩ body42 (T42 w) []) (Z0 s r) = some (.done .ret (T42 w') [], (X0 s r)) :=
  seg 100 [(2, .ov (.int .i64 i)), (2, .br false), (5, .ok), (6, .ov (.tuple #[.int .i64 0, .int .i64 8]))] (m := 52) (js := [0, 1, 2, 3]) (vs := [.func (.yield 10) #[] #[], P 7, P 6, P 8]) (ob := [(∀ σ, envM.ov 44 [.string r, .string ⟨#[44]⟩] 0 σ = some (.int .i64 i, σ)), decide (i < 0) = false, 0 ≤ ad i ∧ ad i ≤ r.size, (∀ σ, envM.ov 23 [.string (r.extract 0 (ad i).toNat)] 0 σ = some (.tuple #[.int .i64 0, .int .i64 8], σ))]) (by kernel_rfl) ⟨h1, h2, h3, h4⟩
theorem end42n (s r : ByteArray) (w : Nat → Value) (h1 : ∀ σ, envM.ov 44 [.string r, .string ⟨#[44]⟩] 0 σ = some (.int .i64 (-1), σ)) :
    ∃ w', runW Tryd.prog envM 0 (.code ⟨42, none⟩ body42 (T42 w) []) (Z0 s r) = some (.done (.exit 2) (T42 w') [], (Z0 s r)) :=
  seg 100 [(2, .ov (.int .i64 (-1)))] (m := 52) (js := [0, 1, 2, 3]) (vs := [.func (.yield 10) #[] #[], P 7, P 6, P 8]) (ob := [(∀ σ, envM.ov 44 [.string r, .string ⟨#[44]⟩] 0 σ = some (.int .i64 (-1), σ))]) (by kernel_rfl) h1

theorem next42l (s r : ByteArray) (i n : Int) (d : List Value) (k : Nat) (w : Nat → Value) (h1 : ∀ σ, envM.ov 44 [.string r, .string ⟨#[44]⟩] 0 σ = some (.int .i64 i, σ)) (h2 : decide (i < 0) = false) (h3 : 0 ≤ ad i ∧ ad i ≤ r.size) (h4 : ∀ σ, envM.ov 23 [.string (r.extract 0 (ad i).toNat)] 0 σ = some (.tuple #[.int .i64 n, .int .i64 0], σ)) (h5 : 0 ≤ ad1 i ∧ ad1 i ≤ r.size) (hk : k < 99999) :
    ∃ w', runW Tryd.prog envM 0 (.code ⟨42, none⟩ body42 (T42 w) []) (Z1 s r d k) = some (.done .normal (T42 w') [], (Z1 s (r.extract (ad1 i).toNat r.size) (d ++ [.int .i64 n]) (k + 1))) :=
  seg 100 [(2, .ov (.int .i64 i)), (2, .br false), (5, .ok), (6, .ov (.tuple #[.int .i64 n, .int .i64 0])), (11, .ok), (8, .ok)] (m := 52) (js := [0, 1, 2, 3]) (vs := [.func (.yield 10) #[] #[], P 7, P 6, P 8]) (ob := [(∀ σ, envM.ov 44 [.string r, .string ⟨#[44]⟩] 0 σ = some (.int .i64 i, σ)), decide (i < 0) = false, 0 ≤ ad i ∧ ad i ≤ r.size, (∀ σ, envM.ov 23 [.string (r.extract 0 (ad i).toNat)] 0 σ = some (.tuple #[.int .i64 n, .int .i64 0], σ)), d.length = d.length ∧ (k + 1) * 8 ≤ 70368744177664, 0 ≤ ad1 i ∧ ad1 i ≤ r.size]) (by kernel_rfl) ⟨h1, h2, h3, h4, ⟨rfl, by omega⟩, h5⟩
theorem bad42l (s r : ByteArray) (i : Int) (d : List Value) (k : Nat) (w : Nat → Value) (h1 : ∀ σ, envM.ov 44 [.string r, .string ⟨#[44]⟩] 0 σ = some (.int .i64 i, σ)) (h2 : decide (i < 0) = false) (h3 : 0 ≤ ad i ∧ ad i ≤ r.size) (h4 : ∀ σ, envM.ov 23 [.string (r.extract 0 (ad i).toNat)] 0 σ = some (.tuple #[.int .i64 0, .int .i64 8], σ)) :
    ∃ w', runW Tryd.prog envM 0 (.code ⟨42, none⟩ body42 (T42 w) []) (Z1 s r d k) = some (.done .ret (T42 w') [], (X1 s r d k)) :=
  seg 100 [(2, .ov (.int .i64 i)), (2, .br false), (5, .ok), (6, .ov (.tuple #[.int .i64 0, .int .i64 8]))] (m := 52) (js := [0, 1, 2, 3]) (vs := [.func (.yield 10) #[] #[], P 7, P 6, P 8]) (ob := [(∀ σ, envM.ov 44 [.string r, .string ⟨#[44]⟩] 0 σ = some (.int .i64 i, σ)), decide (i < 0) = false, 0 ≤ ad i ∧ ad i ≤ r.size, (∀ σ, envM.ov 23 [.string (r.extract 0 (ad i).toNat)] 0 σ = some (.tuple #[.int .i64 0, .int .i64 8], σ))]) (by kernel_rfl) ⟨h1, h2, h3, h4⟩
theorem end42l (s r : ByteArray) (d : List Value) (k : Nat) (w : Nat → Value) (h1 : ∀ σ, envM.ov 44 [.string r, .string ⟨#[44]⟩] 0 σ = some (.int .i64 (-1), σ)) :
    ∃ w', runW Tryd.prog envM 0 (.code ⟨42, none⟩ body42 (T42 w) []) (Z1 s r d k) = some (.done (.exit 2) (T42 w') [], (Z1 s r d k)) :=
  seg 100 [(2, .ov (.int .i64 (-1)))] (m := 52) (js := [0, 1, 2, 3]) (vs := [.func (.yield 10) #[] #[], P 7, P 6, P 8]) (ob := [(∀ σ, envM.ov 44 [.string r, .string ⟨#[44]⟩] 0 σ = some (.int .i64 (-1), σ))]) (by kernel_rfl) h1

end Go.Proofs.YtlbliaihfbnbkaaDoor
