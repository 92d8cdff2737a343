/-
  BITBOARD (chapter 05): the loops of BitboardLoops. Printed by gen05u.py.
-/
import Derived.Test.YtakchekhpeokjaaDoorD05t
namespace Go.Proofs.YtakchekhpeokjaaDoor
open Go.Va

def F51a : Value := .func (.func 51) #[] #[P4 4]
def T51g (l : Nat) (p : Nat) (r : Int) (w : Nat → Value) : List Value := fillT 16 [(0, .func (.yield l) #[] #[]), (1, P4 p), (3, .int .u64 r)] w
noncomputable def asgOf : Code → Code
  | .rangeFunc _ _ a _ => a
  | _ => .skip
noncomputable def bodOf : Code → Code
  | .rangeFunc _ _ _ b => b
  | _ => .skip
noncomputable def loopA : Code := codeOf Tryd.prog 4 [.r, .r, .r, .r, .r, .l, .r, .b]
noncomputable def loopB : Code := codeOf Tryd.prog 4 [.r, .r, .r, .r, .r, .r, .r, .r, .l, .r, .b]
def fxA (s b q : Int) : List (Nat × Value) := [(0, .int .u64 s), (1, .int .u8 b), (4, .bool false), (5, F51a), (6, P4 5), (7, P4 6), (12, .int .u64 s), (13, F51a), (14, F51a), (15, .bool false), (16, .int .u8 b), (17, .int .u8 (b.tmod 66)), (18, .int .i64 q), (19, F51a)]
noncomputable def lpA (s b q : Int) (st : LoopState) (pd : Option Code) : Go.Loop :=
  { state := st, pending := pd, fn := 4, tmps := ⟨fillT 56 (fxA s b q) fun _ => undef⟩, params := #[20], assign := asgOf loopA, body := bodOf loopA, defers := 7 }
noncomputable def SA0 (s b q : Int) (st : LoopState) (pd : Option Code) : AS :=
  (((((base0 4 tabs).push (.cells [.int .u64 s] true (none, some 23) none)).push (.cells [.int .i64 q] true (none, some 3) none)).push (.cells [.slice none 0 0] true (none, some 31) none)).push (.obj (.deferred (some [])))).push (.obj (.loop (lpA s b q st pd)))
noncomputable def SA1 (s b q : Int) (st : LoopState) (pd : Option Code) (c : List Value) (n : Nat) : AS := ((SA0 s b q st pd).put 6 (some (.cells [L c n 1 11] true (none, some 31) none))).push (.tail c.length 1 3)
/-- How a loop that ends early ends. -/
noncomputable def outA (full : Bool) (w : Nat → Value) : Out := bif full then .done (.exit 0) (T51g 8 4 0 w) [] else .done .ret (fillT 16 [] w) []
noncomputable def stA (full : Bool) : LoopState := bif full then .ready else .done
noncomputable def pdA (full : Bool) : Option Code := bif full then none else some (.exit 0)

theorem nextA_nil (s b q r n : Int) (w : Nat → Value) (h1 : (r != 0) = true) (h2 : ∀ σ, env7.ov 52 [.int .u64 r] 0 σ = some (.int .i64 n, σ)) (h3 : ((0 : Int) == q) = false) :
    ∃ w', runW Tryd.prog env7 0 (.code ⟨51, none⟩ body51 (T51g 8 4 r w) []) (SA0 s b q .ready none) = some (.done .normal (T51g 8 4 (andS r (subS r 1)) w') [], SA1 s b q .ready none [.int .i64 n] 1) :=
  seg 100 [(1, .br true), (3, .ov (.int .i64 n)), (5, .br false)] (m := 16) (js := [0, 1, 3]) (vs := [.func (.yield 8) #[] #[], P4 4, .int .u64 (andS r (subS r 1))])
    (ob := [(r != 0) = true, (∀ σ, env7.ov 52 [.int .u64 r] 0 σ = some (.int .i64 n, σ)), ((0 : Int) == q) = false]) (by kernel_rfl) ⟨h1, h2, h3⟩
theorem stopA_nil (s b q r n : Int) (w : Nat → Value) (h1 : (r != 0) = true) (h2 : ∀ σ, env7.ov 52 [.int .u64 r] 0 σ = some (.int .i64 n, σ)) (h3 : ((0 : Int) == q) = true) :
    ∃ w', runW Tryd.prog env7 0 (.code ⟨51, none⟩ body51 (T51g 8 4 r w) []) (SA0 s b q .ready none) = some (.done .ret (fillT 16 [] w') [], SA0 s b q .done (some (.exit 0))) :=
  seg 100 [(1, .br true), (3, .ov (.int .i64 n)), (5, .br true)] (m := 16) (js := []) (vs := [])
    (ob := [(r != 0) = true, (∀ σ, env7.ov 52 [.int .u64 r] 0 σ = some (.int .i64 n, σ)), ((0 : Int) == q) = true]) (by kernel_rfl) ⟨h1, h2, h3⟩
theorem nextA (s b q r n : Int) (c : List Value) (m : Nat) (w : Nat → Value) (h1 : (r != 0) = true) (h2 : ∀ σ, env7.ov 52 [.int .u64 r] 0 σ = some (.int .i64 n, σ)) (h3 : ((m : Int) == q) = false) (h4 : c.length = m) (h5 : m < 100) :
    ∃ w', runW Tryd.prog env7 0 (.code ⟨51, none⟩ body51 (T51g 8 4 r w) []) (SA1 s b q .ready none c m) = some (.done .normal (T51g 8 4 (andS r (subS r 1)) w') [], SA1 s b q .ready none (c ++ [.int .i64 n]) (m + 1)) :=
  seg 100 [(1, .br true), (3, .ov (.int .i64 n)), (5, .br false), (4, .ok)] (m := 16) (js := [0, 1, 3]) (vs := [.func (.yield 8) #[] #[], P4 4, .int .u64 (andS r (subS r 1))])
    (ob := [(r != 0) = true, (∀ σ, env7.ov 52 [.int .u64 r] 0 σ = some (.int .i64 n, σ)), ((m : Int) == q) = false, c.length = c.length ∧ (m + 1) * 8 ≤ 70368744177664]) (by kernel_rfl)
    ⟨h1, h2, h3, rfl, by omega⟩
theorem stopA (s b q r n : Int) (c : List Value) (m : Nat) (w : Nat → Value) (h1 : (r != 0) = true) (h2 : ∀ σ, env7.ov 52 [.int .u64 r] 0 σ = some (.int .i64 n, σ)) (h3 : ((m : Int) == q) = true) :
    ∃ w', runW Tryd.prog env7 0 (.code ⟨51, none⟩ body51 (T51g 8 4 r w) []) (SA1 s b q .ready none c m) = some (.done .ret (fillT 16 [] w') [], SA1 s b q .done (some (.exit 0)) c m) :=
  seg 100 [(1, .br true), (3, .ov (.int .i64 n)), (5, .br true)] (m := 16) (js := []) (vs := [])
    (ob := [(r != 0) = true, (∀ σ, env7.ov 52 [.int .u64 r] 0 σ = some (.int .i64 n, σ)), ((m : Int) == q) = true]) (by kernel_rfl) ⟨h1, h2, h3⟩
theorem endA (s b q : Int) (c : List Value) (m : Nat) (w : Nat → Value) :
    ∃ w', runW Tryd.prog env7 0 (.code ⟨51, none⟩ body51 (T51g 8 4 0 w) []) (SA1 s b q .ready none c m) = some (.done (.exit 0) (T51g 8 4 0 w') [], SA1 s b q .ready none c m) :=
  seg 100 [] (m := 16) (js := [0, 1, 3]) (vs := [.func (.yield 8) #[] #[], P4 4, .int .u64 0]) (ob := []) (by kernel_rfl) trivial

theorem loopA_list (s b : Int) (q : Nat) : ∀ (k : Nat) (x : BitVec 64) (c : List Value) (m : Nat) (w : Nat → Value), (bitsL x).length = k → c.length = m → m + k < 99 → m ≤ q →
    ∃ w', runW Tryd.prog env7 0 (.code ⟨51, none⟩ (.loop body51) (T51g 8 4 (u x) w) []) (SA1 s b q .ready none c m) =
      some (outA (decide (m + k ≤ q)) w', SA1 s b q (stA (decide (m + k ≤ q))) (pdA (decide (m + k ≤ q))) (c ++ ints ((bitsL x).take (q - m))) (min (m + k) q)) := by
  intro k
  induction k with
  | zero =>
    intro x c m w h1 h2 h3 h4
    have e := List.eq_nil_of_length_eq_zero h1
    rw [e, bits_ne e]
    obtain ⟨w', h⟩ := endA s b q c m w
    refine ⟨w', ?_⟩
    rw [decide_eq_true (by omega : m + 0 ≤ q), List.take_nil, show c ++ ints [] = c from List.append_nil c, show min (m + 0) q = m by omega]
    exact loop_out (by intro h; cases h) h
  | succ k ih =>
    intro x c m w h1 h2 h3 h4
    have hx : x ≠ 0#64 := by
      intro e; rw [e, bits_zero] at h1; cases h1
    have hb := bits_cons hx
    rw [hb] at h1
    by_cases hq : m = q
    · obtain ⟨w', h⟩ := stopA s b q (u x) (tz x) c m w (u_ne hx) (fun σ => ov7_52 x 0 σ) (by rw [beq_iff_eq, hq])
      refine ⟨w', ?_⟩
      rw [decide_eq_false (by omega : ¬ m + (k + 1) ≤ q), show q - m = 0 by omega, List.take_zero, show c ++ ints [] = c from List.append_nil c, show min (m + (k + 1)) q = m by omega]
      exact loop_out (by intro h; cases h) h
    · obtain ⟨w1, h⟩ := nextA s b q (u x) (tz x) c m w (u_ne hx) (fun σ => ov7_52 x 0 σ) (by rw [beq_eq_false_iff_ne]; intro e; exact hq (Int.ofNat.inj e)) h2 (by omega)
      rw [rest_u] at h
      obtain ⟨w', h'⟩ := ih (restB x) (c ++ [.int .i64 (tz x)]) (m + 1) w1 (by simpa using h1) (by simp [h2]) (by omega) (by omega)
      refine ⟨w', ?_⟩
      rw [hb, show q - m = (q - (m + 1)) + 1 by omega, List.take_succ_cons, show c ++ ints (tz x :: (bitsL (restB x)).take (q - (m + 1))) = c ++ [.int .i64 (tz x)] ++ ints ((bitsL (restB x)).take (q - (m + 1))) by simp [ints], show m + (k + 1) = m + 1 + k by omega]
      exact loop_next h h'
/-- From the start, when something is taken. -/
theorem loopA_all (s b : Int) (q : Nat) (x : BitVec 64) (w : Nat → Value) (hx : x ≠ 0#64) (hq : q ≠ 0) :
    ∃ w', runW Tryd.prog env7 0 (.code ⟨51, none⟩ (.loop body51) (T51g 8 4 (u x) w) []) (SA0 s b q .ready none) =
      some (outA (decide ((bitsL x).length ≤ q)) w', SA1 s b q (stA (decide ((bitsL x).length ≤ q))) (pdA (decide ((bitsL x).length ≤ q))) (ints ((bitsL x).take q)) (min (bitsL x).length q)) := by
  have hb := bits_cons hx
  obtain ⟨w1, h⟩ := nextA_nil s b q (u x) (tz x) w (u_ne hx) (fun σ => ov7_52 x 0 σ) (by rw [beq_eq_false_iff_ne]; intro e; exact hq (Int.ofNat.inj e).symm)
  rw [rest_u] at h
  have hl := bitsL_length x
  rw [hb, List.length_cons] at hl
  obtain ⟨w', h'⟩ := loopA_list s b q (bitsL (restB x)).length (restB x) [.int .i64 (tz x)] 1 w1 rfl rfl (by omega) (by omega)
  refine ⟨w', ?_⟩
  have e : ints ((tz x :: bitsL (restB x)).take q) = [.int .i64 (tz x)] ++ ints ((bitsL (restB x)).take (q - 1)) := by
    obtain ⟨p, rfl⟩ : ∃ p, q = p + 1 := ⟨q - 1, by omega⟩
    rw [List.take_succ_cons]; simp [ints]
  rw [hb, e, List.length_cons, Nat.add_comm]
  exact loop_next h h'
theorem loopA_none (s b : Int) (x : BitVec 64) (w : Nat → Value) (hx : x ≠ 0#64) :
    ∃ w', runW Tryd.prog env7 0 (.code ⟨51, none⟩ (.loop body51) (T51g 8 4 (u x) w) []) (SA0 s b (0 : Nat) .ready none) = some (outA false w', SA0 s b (0 : Nat) .done (some (.exit 0))) := by
  obtain ⟨w', h⟩ := stopA_nil s b (0 : Nat) (u x) (tz x) w (u_ne hx) (fun σ => ov7_52 x 0 σ) rfl
  exact ⟨w', loop_out (by intro h; cases h) h⟩

/-! ## The second loop, N -/

noncomputable def lpBN (s b q : Int) (v : Value) : Go.Loop :=
  { state := .ready, pending := none, fn := 4, tmps := ⟨fillT 56 (fxA s b q ++ [(9, v), (10, P4 9), (29, .int .u64 s), (30, v), (31, F51a)]) fun _ => undef⟩, params := #[32], assign := asgOf loopB, body := bodOf loopB, defers := 10 }
noncomputable def SBN0 (s b q : Int) (pd : Option Code)  (v : Value) : AS :=
  (((SA0 s b q .exhausted pd).push (.cells [.slice none 0 0] true (none, some 31) none)).push (.obj (.deferred (some [])))).push (.obj (.loop (lpBN s b q v)))
noncomputable def SBN1 (s b q : Int) (pd : Option Code)  (v : Value) (d : List Value) (m : Nat) : AS :=
  ((SBN0 s b q pd  v).put 9 (some (.cells [L d m 1 14] true (none, some 31) none))).push (.tail d.length 1 3)
theorem nextBN_nil (s b q : Int) (pd : Option Code)  (v : Value) (r n' : Int) (w : Nat → Value) (h1 : (r != 0) = true) (h2 : ∀ σ, env7.ov 52 [.int .u64 r] 0 σ = some (.int .i64 n', σ)) :
    ∃ w', runW Tryd.prog env7 0 (.code ⟨51, none⟩ body51 (T51g 11 4 r w) []) (SBN0 s b q pd  v) = some (.done .normal (T51g 11 4 (andS r (subS r 1)) w') [], SBN1 s b q pd  v [.int .i64 n'] 1) :=
  seg 100 [(1, .br true), (3, .ov (.int .i64 n'))] (m := 16) (js := [0, 1, 3]) (vs := [.func (.yield 11) #[] #[], P4 4, .int .u64 (andS r (subS r 1))])
    (ob := [(r != 0) = true, (∀ σ, env7.ov 52 [.int .u64 r] 0 σ = some (.int .i64 n', σ))]) (by kernel_rfl) ⟨h1, h2⟩
theorem nextBN (s b q : Int) (pd : Option Code)  (v : Value) (d : List Value) (m : Nat) (r n' : Int) (w : Nat → Value) (h1 : (r != 0) = true) (h2 : ∀ σ, env7.ov 52 [.int .u64 r] 0 σ = some (.int .i64 n', σ)) (h4 : m < 99) :
    ∃ w', runW Tryd.prog env7 0 (.code ⟨51, none⟩ body51 (T51g 11 4 r w) []) (SBN1 s b q pd  v d m) = some (.done .normal (T51g 11 4 (andS r (subS r 1)) w') [], SBN1 s b q pd  v (d ++ [.int .i64 n']) (m + 1)) :=
  seg 100 [(1, .br true), (3, .ov (.int .i64 n')), (5, .ok), (3, .br false)] (m := 16) (js := [0, 1, 3]) (vs := [.func (.yield 11) #[] #[], P4 4, .int .u64 (andS r (subS r 1))])
    (ob := [(r != 0) = true, (∀ σ, env7.ov 52 [.int .u64 r] 0 σ = some (.int .i64 n', σ)), d.length = d.length ∧ (m + 1) * 8 ≤ 70368744177664, (((m + 1 : Nat) : Int) == 100) = false]) (by kernel_rfl)
    ⟨h1, h2, ⟨rfl, by omega⟩, beq_eq_false_iff_ne.2 (by intro e; have e : m + 1 = 100 := Int.ofNat.inj e; omega)⟩
theorem endBN (s b q : Int) (pd : Option Code)  (v : Value) (d : List Value) (m : Nat) (w : Nat → Value) :
    ∃ w', runW Tryd.prog env7 0 (.code ⟨51, none⟩ body51 (T51g 11 4 0 w) []) (SBN1 s b q pd  v d m) = some (.done (.exit 0) (T51g 11 4 0 w') [], SBN1 s b q pd  v d m) :=
  seg 100 [] (m := 16) (js := [0, 1, 3]) (vs := [.func (.yield 11) #[] #[], P4 4, .int .u64 0]) (ob := []) (by kernel_rfl) trivial
theorem loopBN (s b q : Int) (pd : Option Code)  (v : Value) : ∀ (k : Nat) (x : BitVec 64) (d : List Value) (m : Nat) (w : Nat → Value), (bitsL x).length = k → d.length = m → m + k < 99 →
    ∃ w', runW Tryd.prog env7 0 (.code ⟨51, none⟩ (.loop body51) (T51g 11 4 (u x) w) []) (SBN1 s b q pd  v d m) = some (.done (.exit 0) (T51g 11 4 0 w') [], SBN1 s b q pd  v (d ++ ints (bitsL x)) (m + k)) := by
  intro k
  induction k with
  | zero =>
    intro x d m w h1 h2 h3
    have e := List.eq_nil_of_length_eq_zero h1
    rw [e, bits_ne e]
    obtain ⟨w', h⟩ := endBN s b q pd  v d m w
    refine ⟨w', ?_⟩
    rw [show d ++ ints [] = d from List.append_nil d]
    exact loop_out (by intro h; cases h) h
  | succ k ih =>
    intro x d m w h1 h2 h3
    have hx : x ≠ 0#64 := by
      intro e; rw [e, bits_zero] at h1; cases h1
    have hb := bits_cons hx
    rw [hb] at h1
    obtain ⟨w1, h⟩ := nextBN s b q pd  v d m (u x) (tz x) w (u_ne hx) (fun σ => ov7_52 x 0 σ) (by omega)
    rw [rest_u] at h
    obtain ⟨w', h'⟩ := ih (restB x) (d ++ [.int .i64 (tz x)]) (m + 1) w1 (by simpa using h1) (by simp [h2]) (by omega)
    refine ⟨w', ?_⟩
    rw [hb, show d ++ ints (tz x :: bitsL (restB x)) = d ++ [.int .i64 (tz x)] ++ ints (bitsL (restB x)) by simp [ints], show m + (k + 1) = m + 1 + k by omega]
    exact loop_next h h'
theorem loopBN_all (s b q : Int) (pd : Option Code)  (v : Value) (x : BitVec 64) (w : Nat → Value) (hx : x ≠ 0#64) :
    ∃ w', runW Tryd.prog env7 0 (.code ⟨51, none⟩ (.loop body51) (T51g 11 4 (u x) w) []) (SBN0 s b q pd  v) = some (.done (.exit 0) (T51g 11 4 0 w') [], SBN1 s b q pd  v (ints (bitsL x)) (bitsL x).length) := by
  have hb := bits_cons hx
  obtain ⟨w1, h⟩ := nextBN_nil s b q pd  v (u x) (tz x) w (u_ne hx) (fun σ => ov7_52 x 0 σ)
  rw [rest_u] at h
  have hl := bitsL_length x
  rw [hb, List.length_cons] at hl
  obtain ⟨w', h'⟩ := loopBN s b q pd  v (bitsL (restB x)).length (restB x) [.int .i64 (tz x)] 1 w1 rfl rfl (by omega)
  refine ⟨w', ?_⟩
  rw [hb, show ints (tz x :: bitsL (restB x)) = [.int .i64 (tz x)] ++ ints (bitsL (restB x)) by simp [ints], List.length_cons, Nat.add_comm]
  exact loop_next h h'

/-! ## The second loop, L -/

noncomputable def lpBL (s b q : Int) (v : Value) : Go.Loop :=
  { state := .ready, pending := none, fn := 4, tmps := ⟨fillT 56 (fxA s b q ++ [(9, v), (10, P4 10), (29, .int .u64 s), (30, v), (31, F51a)]) fun _ => undef⟩, params := #[32], assign := asgOf loopB, body := bodOf loopB, defers := 11 }
noncomputable def SBL0 (s b q : Int) (pd : Option Code) (c : List Value) (n : Nat) (v : Value) : AS :=
  (((SA1 s b q .exhausted pd c n).push (.cells [.slice none 0 0] true (none, some 31) none)).push (.obj (.deferred (some [])))).push (.obj (.loop (lpBL s b q v)))
noncomputable def SBL1 (s b q : Int) (pd : Option Code) (c : List Value) (n : Nat) (v : Value) (d : List Value) (m : Nat) : AS :=
  ((SBL0 s b q pd c n v).put 10 (some (.cells [L d m 1 15] true (none, some 31) none))).push (.tail d.length 1 3)
theorem nextBL_nil (s b q : Int) (pd : Option Code) (c : List Value) (n : Nat) (v : Value) (r n' : Int) (w : Nat → Value) (h1 : (r != 0) = true) (h2 : ∀ σ, env7.ov 52 [.int .u64 r] 0 σ = some (.int .i64 n', σ)) :
    ∃ w', runW Tryd.prog env7 0 (.code ⟨51, none⟩ body51 (T51g 12 4 r w) []) (SBL0 s b q pd c n v) = some (.done .normal (T51g 12 4 (andS r (subS r 1)) w') [], SBL1 s b q pd c n v [.int .i64 n'] 1) :=
  seg 100 [(1, .br true), (3, .ov (.int .i64 n'))] (m := 16) (js := [0, 1, 3]) (vs := [.func (.yield 12) #[] #[], P4 4, .int .u64 (andS r (subS r 1))])
    (ob := [(r != 0) = true, (∀ σ, env7.ov 52 [.int .u64 r] 0 σ = some (.int .i64 n', σ))]) (by kernel_rfl) ⟨h1, h2⟩
theorem nextBL (s b q : Int) (pd : Option Code) (c : List Value) (n : Nat) (v : Value) (d : List Value) (m : Nat) (r n' : Int) (w : Nat → Value) (h1 : (r != 0) = true) (h2 : ∀ σ, env7.ov 52 [.int .u64 r] 0 σ = some (.int .i64 n', σ)) (h4 : m < 99) :
    ∃ w', runW Tryd.prog env7 0 (.code ⟨51, none⟩ body51 (T51g 12 4 r w) []) (SBL1 s b q pd c n v d m) = some (.done .normal (T51g 12 4 (andS r (subS r 1)) w') [], SBL1 s b q pd c n v (d ++ [.int .i64 n']) (m + 1)) :=
  seg 100 [(1, .br true), (3, .ov (.int .i64 n')), (5, .ok), (3, .br false)] (m := 16) (js := [0, 1, 3]) (vs := [.func (.yield 12) #[] #[], P4 4, .int .u64 (andS r (subS r 1))])
    (ob := [(r != 0) = true, (∀ σ, env7.ov 52 [.int .u64 r] 0 σ = some (.int .i64 n', σ)), d.length = d.length ∧ (m + 1) * 8 ≤ 70368744177664, (((m + 1 : Nat) : Int) == 100) = false]) (by kernel_rfl)
    ⟨h1, h2, ⟨rfl, by omega⟩, beq_eq_false_iff_ne.2 (by intro e; have e : m + 1 = 100 := Int.ofNat.inj e; omega)⟩
theorem endBL (s b q : Int) (pd : Option Code) (c : List Value) (n : Nat) (v : Value) (d : List Value) (m : Nat) (w : Nat → Value) :
    ∃ w', runW Tryd.prog env7 0 (.code ⟨51, none⟩ body51 (T51g 12 4 0 w) []) (SBL1 s b q pd c n v d m) = some (.done (.exit 0) (T51g 12 4 0 w') [], SBL1 s b q pd c n v d m) :=
  seg 100 [] (m := 16) (js := [0, 1, 3]) (vs := [.func (.yield 12) #[] #[], P4 4, .int .u64 0]) (ob := []) (by kernel_rfl) trivial
theorem loopBL (s b q : Int) (pd : Option Code) (c : List Value) (n : Nat) (v : Value) : ∀ (k : Nat) (x : BitVec 64) (d : List Value) (m : Nat) (w : Nat → Value), (bitsL x).length = k → d.length = m → m + k < 99 →
    ∃ w', runW Tryd.prog env7 0 (.code ⟨51, none⟩ (.loop body51) (T51g 12 4 (u x) w) []) (SBL1 s b q pd c n v d m) = some (.done (.exit 0) (T51g 12 4 0 w') [], SBL1 s b q pd c n v (d ++ ints (bitsL x)) (m + k)) := by
  intro k
  induction k with
  | zero =>
    intro x d m w h1 h2 h3
    have e := List.eq_nil_of_length_eq_zero h1
    rw [e, bits_ne e]
    obtain ⟨w', h⟩ := endBL s b q pd c n v d m w
    refine ⟨w', ?_⟩
    rw [show d ++ ints [] = d from List.append_nil d]
    exact loop_out (by intro h; cases h) h
  | succ k ih =>
    intro x d m w h1 h2 h3
    have hx : x ≠ 0#64 := by
      intro e; rw [e, bits_zero] at h1; cases h1
    have hb := bits_cons hx
    rw [hb] at h1
    obtain ⟨w1, h⟩ := nextBL s b q pd c n v d m (u x) (tz x) w (u_ne hx) (fun σ => ov7_52 x 0 σ) (by omega)
    rw [rest_u] at h
    obtain ⟨w', h'⟩ := ih (restB x) (d ++ [.int .i64 (tz x)]) (m + 1) w1 (by simpa using h1) (by simp [h2]) (by omega)
    refine ⟨w', ?_⟩
    rw [hb, show d ++ ints (tz x :: bitsL (restB x)) = d ++ [.int .i64 (tz x)] ++ ints (bitsL (restB x)) by simp [ints], show m + (k + 1) = m + 1 + k by omega]
    exact loop_next h h'
theorem loopBL_all (s b q : Int) (pd : Option Code) (c : List Value) (n : Nat) (v : Value) (x : BitVec 64) (w : Nat → Value) (hx : x ≠ 0#64) :
    ∃ w', runW Tryd.prog env7 0 (.code ⟨51, none⟩ (.loop body51) (T51g 12 4 (u x) w) []) (SBL0 s b q pd c n v) = some (.done (.exit 0) (T51g 12 4 0 w') [], SBL1 s b q pd c n v (ints (bitsL x)) (bitsL x).length) := by
  have hb := bits_cons hx
  obtain ⟨w1, h⟩ := nextBL_nil s b q pd c n v (u x) (tz x) w (u_ne hx) (fun σ => ov7_52 x 0 σ)
  rw [rest_u] at h
  have hl := bitsL_length x
  rw [hb, List.length_cons] at hl
  obtain ⟨w', h'⟩ := loopBL s b q pd c n v (bitsL (restB x)).length (restB x) [.int .i64 (tz x)] 1 w1 rfl rfl (by omega)
  refine ⟨w', ?_⟩
  rw [hb, show ints (tz x :: bitsL (restB x)) = [.int .i64 (tz x)] ++ ints (bitsL (restB x)) by simp [ints], List.length_cons, Nat.add_comm]
  exact loop_next h h'
end Go.Proofs.YtakchekhpeokjaaDoor
