/-
  The functions that the statement reaches: what they answer, part 5.
-/
import Derived.Test.YtakchekhpeokjaaDoorPart3
import Derived.Test.YtakchekhpeokjaaDoorPart4

/-
  BITBOARD (chapter 05): the loops of BitboardLoops. Printed by gen05u.py.
-/
namespace Go.Proofs.YtakchekhpeokjaaDoor
open Go.Va

def F51a : Value := .func (.func 51) #[] #[P4 4]
def T51g (l : Nat) (p : Nat) (r : Int) (w : Nat → Value) : List Value := fillT 16 [(0, .func (.yield l) #[] #[]), (1, P4 p), (3, .int .u64 r)] w
noncomputable def asgOf : Code → Code
  | .rangeFunc _ _ a _ => a
  | _ => .skip
noncomputable def bodOf : Code → Code
  | .rangeFunc _ _ _ b => b
  | _ => .skip
noncomputable def loopA : Code := codeOf Tryd.prog 4 [.r, .r, .r, .r, .r, .l, .r, .b]
noncomputable def loopB : Code := codeOf Tryd.prog 4 [.r, .r, .r, .r, .r, .r, .r, .r, .l, .r, .b]
def fxA (s b q : Int) : List (Nat × Value) := [(0, .int .u64 s), (1, .int .u8 b), (4, .bool false), (5, F51a), (6, P4 5), (7, P4 6), (12, .int .u64 s), (13, F51a), (14, F51a), (15, .bool false), (16, .int .u8 b), (17, .int .u8 (b.tmod 66)), (18, .int .i64 q), (19, F51a)]
noncomputable def lpA (s b q : Int) (st : LoopState) (pd : Option Code) : Go.Loop :=
  { state := st, pending := pd, fn := 4, tmps := ⟨fillT 56 (fxA s b q) fun _ => undef⟩, params := #[20], assign := asgOf loopA, body := bodOf loopA, defers := 7 }
noncomputable def SA0 (s b q : Int) (st : LoopState) (pd : Option Code) : AS :=
  (((((base0 4 tabs).push (.cells [.int .u64 s] true (none, some 23) none)).push (.cells [.int .i64 q] true (none, some 3) none)).push (.cells [.slice none 0 0] true (none, some 31) none)).push (.obj (.deferred (some [])))).push (.obj (.loop (lpA s b q st pd)))
noncomputable def SA1 (s b q : Int) (st : LoopState) (pd : Option Code) (c : List Value) (n : Nat) : AS := ((SA0 s b q st pd).put 6 (some (.cells [L c n 1 11] true (none, some 31) none))).push (.tail c.length 1 3)
/-- How a loop that ends early ends. -/
noncomputable def outA (full : Bool) (w : Nat → Value) : Out := bif full then .done (.exit 0) (T51g 8 4 0 w) [] else .done .ret (fillT 16 [] w) []
noncomputable def stA (full : Bool) : LoopState := bif full then .ready else .done
noncomputable def pdA (full : Bool) : Option Code := bif full then none else some (.exit 0)

theorem nextA_nil (s b q r n : Int) (w : Nat → Value) (h1 : (r != 0) = true) (h2 : ∀ σ, env7.ov 52 [.int .u64 r] 0 σ = some (.int .i64 n, σ)) (h3 : ((0 : Int) == q) = false) :
    ∃ w', runW Tryd.prog env7 0 (.code ⟨51, none⟩ body51 (T51g 8 4 r w) []) (SA0 s b q .ready none) = some (.done .normal (T51g 8 4 (andS r (subS r 1)) w') [], SA1 s b q .ready none [.int .i64 n] 1) :=
  seg 100 [(1, .br true), (3, .ov (.int .i64 n)), (5, .br false)] (m := 16) (js := [0, 1, 3]) (vs := [.func (.yield 8) #[] #[], P4 4, .int .u64 (andS r (subS r 1))])
    (ob := [(r != 0) = true, (∀ σ, env7.ov 52 [.int .u64 r] 0 σ = some (.int .i64 n, σ)), ((0 : Int) == q) = false]) (by kernel_rfl) ⟨h1, h2, h3⟩
theorem stopA_nil (s b q r n : Int) (w : Nat → Value) (h1 : (r != 0) = true) (h2 : ∀ σ, env7.ov 52 [.int .u64 r] 0 σ = some (.int .i64 n, σ)) (h3 : ((0 : Int) == q) = true) :
    ∃ w', runW Tryd.prog env7 0 (.code ⟨51, none⟩ body51 (T51g 8 4 r w) []) (SA0 s b q .ready none) = some (.done .ret (fillT 16 [] w') [], SA0 s b q .done (some (.exit 0))) :=
  seg 100 [(1, .br true), (3, .ov (.int .i64 n)), (5, .br true)] (m := 16) (js := []) (vs := [])
    (ob := [(r != 0) = true, (∀ σ, env7.ov 52 [.int .u64 r] 0 σ = some (.int .i64 n, σ)), ((0 : Int) == q) = true]) (by kernel_rfl) ⟨h1, h2, h3⟩
theorem nextA (s b q r n : Int) (c : List Value) (m : Nat) (w : Nat → Value) (h1 : (r != 0) = true) (h2 : ∀ σ, env7.ov 52 [.int .u64 r] 0 σ = some (.int .i64 n, σ)) (h3 : ((m : Int) == q) = false) (h4 : c.length = m) (h5 : m < 100) :
    ∃ w', runW Tryd.prog env7 0 (.code ⟨51, none⟩ body51 (T51g 8 4 r w) []) (SA1 s b q .ready none c m) = some (.done .normal (T51g 8 4 (andS r (subS r 1)) w') [], SA1 s b q .ready none (c ++ [.int .i64 n]) (m + 1)) :=
  seg 100 [(1, .br true), (3, .ov (.int .i64 n)), (5, .br false), (4, .ok)] (m := 16) (js := [0, 1, 3]) (vs := [.func (.yield 8) #[] #[], P4 4, .int .u64 (andS r (subS r 1))])
    (ob := [(r != 0) = true, (∀ σ, env7.ov 52 [.int .u64 r] 0 σ = some (.int .i64 n, σ)), ((m : Int) == q) = false, c.length = c.length ∧ (m + 1) * 8 ≤ 70368744177664]) (by kernel_rfl)
    ⟨h1, h2, h3, rfl, by omega⟩
theorem stopA (s b q r n : Int) (c : List Value) (m : Nat) (w : Nat → Value) (h1 : (r != 0) = true) (h2 : ∀ σ, env7.ov 52 [.int .u64 r] 0 σ = some (.int .i64 n, σ)) (h3 : ((m : Int) == q) = true) :
    ∃ w', runW Tryd.prog env7 0 (.code ⟨51, none⟩ body51 (T51g 8 4 r w) []) (SA1 s b q .ready none c m) = some (.done .ret (fillT 16 [] w') [], SA1 s b q .done (some (.exit 0)) c m) :=
  seg 100 [(1, .br true), (3, .ov (.int .i64 n)), (5, .br true)] (m := 16) (js := []) (vs := [])
    (ob := [(r != 0) = true, (∀ σ, env7.ov 52 [.int .u64 r] 0 σ = some (.int .i64 n, σ)), ((m : Int) == q) = true]) (by kernel_rfl) ⟨h1, h2, h3⟩
theorem endA (s b q : Int) (c : List Value) (m : Nat) (w : Nat → Value) :
    ∃ w', runW Tryd.prog env7 0 (.code ⟨51, none⟩ body51 (T51g 8 4 0 w) []) (SA1 s b q .ready none c m) = some (.done (.exit 0) (T51g 8 4 0 w') [], SA1 s b q .ready none c m) :=
  seg 100 [] (m := 16) (js := [0, 1, 3]) (vs := [.func (.yield 8) #[] #[], P4 4, .int .u64 0]) (ob := []) (by kernel_rfl) trivial

theorem loopA_list (s b : Int) (q : Nat) : ∀ (k : Nat) (x : BitVec 64) (c : List Value) (m : Nat) (w : Nat → Value), (bitsL x).length = k → c.length = m → m + k < 99 → m ≤ q →
    ∃ w', runW Tryd.prog env7 0 (.code ⟨51, none⟩ (.loop body51) (T51g 8 4 (u x) w) []) (SA1 s b q .ready none c m) =
      some (outA (decide (m + k ≤ q)) w', SA1 s b q (stA (decide (m + k ≤ q))) (pdA (decide (m + k ≤ q))) (c ++ ints ((bitsL x).take (q - m))) (min (m + k) q)) := by
  intro k
  induction k with
  | zero =>
    intro x c m w h1 h2 h3 h4
    have e := List.eq_nil_of_length_eq_zero h1
    rw [e, bits_ne e]
    obtain ⟨w', h⟩ := endA s b q c m w
    refine ⟨w', ?_⟩
    rw [decide_eq_true (by omega : m + 0 ≤ q), List.take_nil, show c ++ ints [] = c from List.append_nil c, show min (m + 0) q = m by omega]
    exact loop_out (by intro h; cases h) h
  | succ k ih =>
    intro x c m w h1 h2 h3 h4
    have hx : x ≠ 0#64 := by
      intro e; rw [e, bits_zero] at h1; cases h1
    have hb := bits_cons hx
    rw [hb] at h1
    by_cases hq : m = q
    · obtain ⟨w', h⟩ := stopA s b q (u x) (tz x) c m w (u_ne hx) (fun σ => ov7_52 x 0 σ) (by rw [beq_iff_eq, hq])
      refine ⟨w', ?_⟩
      rw [decide_eq_false (by omega : ¬ m + (k + 1) ≤ q), show q - m = 0 by omega, List.take_zero, show c ++ ints [] = c from List.append_nil c, show min (m + (k + 1)) q = m by omega]
      exact loop_out (by intro h; cases h) h
    · obtain ⟨w1, h⟩ := nextA s b q (u x) (tz x) c m w (u_ne hx) (fun σ => ov7_52 x 0 σ) (by rw [beq_eq_false_iff_ne]; intro e; exact hq (Int.ofNat.inj e)) h2 (by omega)
      rw [rest_u] at h
      obtain ⟨w', h'⟩ := ih (restB x) (c ++ [.int .i64 (tz x)]) (m + 1) w1 (by simpa using h1) (by simp [h2]) (by omega) (by omega)
      refine ⟨w', ?_⟩
      rw [hb, show q - m = (q - (m + 1)) + 1 by omega, List.take_succ_cons, show c ++ ints (tz x :: (bitsL (restB x)).take (q - (m + 1))) = c ++ [.int .i64 (tz x)] ++ ints ((bitsL (restB x)).take (q - (m + 1))) by simp [ints], show m + (k + 1) = m + 1 + k by omega]
      exact loop_next h h'
/-- From the start, when something is taken. -/
theorem loopA_all (s b : Int) (q : Nat) (x : BitVec 64) (w : Nat → Value) (hx : x ≠ 0#64) (hq : q ≠ 0) :
    ∃ w', runW Tryd.prog env7 0 (.code ⟨51, none⟩ (.loop body51) (T51g 8 4 (u x) w) []) (SA0 s b q .ready none) =
      some (outA (decide ((bitsL x).length ≤ q)) w', SA1 s b q (stA (decide ((bitsL x).length ≤ q))) (pdA (decide ((bitsL x).length ≤ q))) (ints ((bitsL x).take q)) (min (bitsL x).length q)) := by
  have hb := bits_cons hx
  obtain ⟨w1, h⟩ := nextA_nil s b q (u x) (tz x) w (u_ne hx) (fun σ => ov7_52 x 0 σ) (by rw [beq_eq_false_iff_ne]; intro e; exact hq (Int.ofNat.inj e).symm)
  rw [rest_u] at h
  have hl := bitsL_length x
  rw [hb, List.length_cons] at hl
  obtain ⟨w', h'⟩ := loopA_list s b q (bitsL (restB x)).length (restB x) [.int .i64 (tz x)] 1 w1 rfl rfl (by omega) (by omega)
  refine ⟨w', ?_⟩
  have e : ints ((tz x :: bitsL (restB x)).take q) = [.int .i64 (tz x)] ++ ints ((bitsL (restB x)).take (q - 1)) := by
    obtain ⟨p, rfl⟩ : ∃ p, q = p + 1 := ⟨q - 1, by omega⟩
    rw [List.take_succ_cons]; simp [ints]
  rw [hb, e, List.length_cons, Nat.add_comm]
  exact loop_next h h'
theorem loopA_none (s b : Int) (x : BitVec 64) (w : Nat → Value) (hx : x ≠ 0#64) :
    ∃ w', runW Tryd.prog env7 0 (.code ⟨51, none⟩ (.loop body51) (T51g 8 4 (u x) w) []) (SA0 s b (0 : Nat) .ready none) = some (outA false w', SA0 s b (0 : Nat) .done (some (.exit 0))) := by
  obtain ⟨w', h⟩ := stopA_nil s b (0 : Nat) (u x) (tz x) w (u_ne hx) (fun σ => ov7_52 x 0 σ) rfl
  exact ⟨w', loop_out (by intro h; cases h) h⟩

/-! ## The second loop, N -/

noncomputable def lpBN (s b q : Int) (v : Value) : Go.Loop :=
  { state := .ready, pending := none, fn := 4, tmps := ⟨fillT 56 (fxA s b q ++ [(9, v), (10, P4 9), (29, .int .u64 s), (30, v), (31, F51a)]) fun _ => undef⟩, params := #[32], assign := asgOf loopB, body := bodOf loopB, defers := 10 }
noncomputable def SBN0 (s b q : Int) (pd : Option Code)  (v : Value) : AS :=
  (((SA0 s b q .exhausted pd).push (.cells [.slice none 0 0] true (none, some 31) none)).push (.obj (.deferred (some [])))).push (.obj (.loop (lpBN s b q v)))
noncomputable def SBN1 (s b q : Int) (pd : Option Code)  (v : Value) (d : List Value) (m : Nat) : AS :=
  ((SBN0 s b q pd  v).put 9 (some (.cells [L d m 1 14] true (none, some 31) none))).push (.tail d.length 1 3)
theorem nextBN_nil (s b q : Int) (pd : Option Code)  (v : Value) (r n' : Int) (w : Nat → Value) (h1 : (r != 0) = true) (h2 : ∀ σ, env7.ov 52 [.int .u64 r] 0 σ = some (.int .i64 n', σ)) :
    ∃ w', runW Tryd.prog env7 0 (.code ⟨51, none⟩ body51 (T51g 11 4 r w) []) (SBN0 s b q pd  v) = some (.done .normal (T51g 11 4 (andS r (subS r 1)) w') [], SBN1 s b q pd  v [.int .i64 n'] 1) :=
  seg 100 [(1, .br true), (3, .ov (.int .i64 n'))] (m := 16) (js := [0, 1, 3]) (vs := [.func (.yield 11) #[] #[], P4 4, .int .u64 (andS r (subS r 1))])
    (ob := [(r != 0) = true, (∀ σ, env7.ov 52 [.int .u64 r] 0 σ = some (.int .i64 n', σ))]) (by kernel_rfl) ⟨h1, h2⟩
theorem nextBN (s b q : Int) (pd : Option Code)  (v : Value) (d : List Value) (m : Nat) (r n' : Int) (w : Nat → Value) (h1 : (r != 0) = true) (h2 : ∀ σ, env7.ov 52 [.int .u64 r] 0 σ = some (.int .i64 n', σ)) (h4 : m < 99) :
    ∃ w', runW Tryd.prog env7 0 (.code ⟨51, none⟩ body51 (T51g 11 4 r w) []) (SBN1 s b q pd  v d m) = some (.done .normal (T51g 11 4 (andS r (subS r 1)) w') [], SBN1 s b q pd  v (d ++ [.int .i64 n']) (m + 1)) :=
  seg 100 [(1, .br true), (3, .ov (.int .i64 n')), (5, .ok), (3, .br false)] (m := 16) (js := [0, 1, 3]) (vs := [.func (.yield 11) #[] #[], P4 4, .int .u64 (andS r (subS r 1))])
    (ob := [(r != 0) = true, (∀ σ, env7.ov 52 [.int .u64 r] 0 σ = some (.int .i64 n', σ)), d.length = d.length ∧ (m + 1) * 8 ≤ 70368744177664, (((m + 1 : Nat) : Int) == 100) = false]) (by kernel_rfl)
    ⟨h1, h2, ⟨rfl, by omega⟩, beq_eq_false_iff_ne.2 (by intro e; have e : m + 1 = 100 := Int.ofNat.inj e; omega)⟩
theorem endBN (s b q : Int) (pd : Option Code)  (v : Value) (d : List Value) (m : Nat) (w : Nat → Value) :
    ∃ w', runW Tryd.prog env7 0 (.code ⟨51, none⟩ body51 (T51g 11 4 0 w) []) (SBN1 s b q pd  v d m) = some (.done (.exit 0) (T51g 11 4 0 w') [], SBN1 s b q pd  v d m) :=
  seg 100 [] (m := 16) (js := [0, 1, 3]) (vs := [.func (.yield 11) #[] #[], P4 4, .int .u64 0]) (ob := []) (by kernel_rfl) trivial
theorem loopBN (s b q : Int) (pd : Option Code)  (v : Value) : ∀ (k : Nat) (x : BitVec 64) (d : List Value) (m : Nat) (w : Nat → Value), (bitsL x).length = k → d.length = m → m + k < 99 →
    ∃ w', runW Tryd.prog env7 0 (.code ⟨51, none⟩ (.loop body51) (T51g 11 4 (u x) w) []) (SBN1 s b q pd  v d m) = some (.done (.exit 0) (T51g 11 4 0 w') [], SBN1 s b q pd  v (d ++ ints (bitsL x)) (m + k)) := by
  intro k
  induction k with
  | zero =>
    intro x d m w h1 h2 h3
    have e := List.eq_nil_of_length_eq_zero h1
    rw [e, bits_ne e]
    obtain ⟨w', h⟩ := endBN s b q pd  v d m w
    refine ⟨w', ?_⟩
    rw [show d ++ ints [] = d from List.append_nil d]
    exact loop_out (by intro h; cases h) h
  | succ k ih =>
    intro x d m w h1 h2 h3
    have hx : x ≠ 0#64 := by
      intro e; rw [e, bits_zero] at h1; cases h1
    have hb := bits_cons hx
    rw [hb] at h1
    obtain ⟨w1, h⟩ := nextBN s b q pd  v d m (u x) (tz x) w (u_ne hx) (fun σ => ov7_52 x 0 σ) (by omega)
    rw [rest_u] at h
    obtain ⟨w', h'⟩ := ih (restB x) (d ++ [.int .i64 (tz x)]) (m + 1) w1 (by simpa using h1) (by simp [h2]) (by omega)
    refine ⟨w', ?_⟩
    rw [hb, show d ++ ints (tz x :: bitsL (restB x)) = d ++ [.int .i64 (tz x)] ++ ints (bitsL (restB x)) by simp [ints], show m + (k + 1) = m + 1 + k by omega]
    exact loop_next h h'
theorem loopBN_all (s b q : Int) (pd : Option Code)  (v : Value) (x : BitVec 64) (w : Nat → Value) (hx : x ≠ 0#64) :
    ∃ w', runW Tryd.prog env7 0 (.code ⟨51, none⟩ (.loop body51) (T51g 11 4 (u x) w) []) (SBN0 s b q pd  v) = some (.done (.exit 0) (T51g 11 4 0 w') [], SBN1 s b q pd  v (ints (bitsL x)) (bitsL x).length) := by
  have hb := bits_cons hx
  obtain ⟨w1, h⟩ := nextBN_nil s b q pd  v (u x) (tz x) w (u_ne hx) (fun σ => ov7_52 x 0 σ)
  rw [rest_u] at h
  have hl := bitsL_length x
  rw [hb, List.length_cons] at hl
  obtain ⟨w', h'⟩ := loopBN s b q pd  v (bitsL (restB x)).length (restB x) [.int .i64 (tz x)] 1 w1 rfl rfl (by omega)
  refine ⟨w', ?_⟩
  rw [hb, show ints (tz x :: bitsL (restB x)) = [.int .i64 (tz x)] ++ ints (bitsL (restB x)) by simp [ints], List.length_cons, Nat.add_comm]
  exact loop_next h h'

/-! ## The second loop, L -/

noncomputable def lpBL (s b q : Int) (v : Value) : Go.Loop :=
  { state := .ready, pending := none, fn := 4, tmps := ⟨fillT 56 (fxA s b q ++ [(9, v), (10, P4 10), (29, .int .u64 s), (30, v), (31, F51a)]) fun _ => undef⟩, params := #[32], assign := asgOf loopB, body := bodOf loopB, defers := 11 }
noncomputable def SBL0 (s b q : Int) (pd : Option Code) (c : List Value) (n : Nat) (v : Value) : AS :=
  (((SA1 s b q .exhausted pd c n).push (.cells [.slice none 0 0] true (none, some 31) none)).push (.obj (.deferred (some [])))).push (.obj (.loop (lpBL s b q v)))
noncomputable def SBL1 (s b q : Int) (pd : Option Code) (c : List Value) (n : Nat) (v : Value) (d : List Value) (m : Nat) : AS :=
  ((SBL0 s b q pd c n v).put 10 (some (.cells [L d m 1 15] true (none, some 31) none))).push (.tail d.length 1 3)
theorem nextBL_nil (s b q : Int) (pd : Option Code) (c : List Value) (n : Nat) (v : Value) (r n' : Int) (w : Nat → Value) (h1 : (r != 0) = true) (h2 : ∀ σ, env7.ov 52 [.int .u64 r] 0 σ = some (.int .i64 n', σ)) :
    ∃ w', runW Tryd.prog env7 0 (.code ⟨51, none⟩ body51 (T51g 12 4 r w) []) (SBL0 s b q pd c n v) = some (.done .normal (T51g 12 4 (andS r (subS r 1)) w') [], SBL1 s b q pd c n v [.int .i64 n'] 1) :=
  seg 100 [(1, .br true), (3, .ov (.int .i64 n'))] (m := 16) (js := [0, 1, 3]) (vs := [.func (.yield 12) #[] #[], P4 4, .int .u64 (andS r (subS r 1))])
    (ob := [(r != 0) = true, (∀ σ, env7.ov 52 [.int .u64 r] 0 σ = some (.int .i64 n', σ))]) (by kernel_rfl) ⟨h1, h2⟩
theorem nextBL (s b q : Int) (pd : Option Code) (c : List Value) (n : Nat) (v : Value) (d : List Value) (m : Nat) (r n' : Int) (w : Nat → Value) (h1 : (r != 0) = true) (h2 : ∀ σ, env7.ov 52 [.int .u64 r] 0 σ = some (.int .i64 n', σ)) (h4 : m < 99) :
    ∃ w', runW Tryd.prog env7 0 (.code ⟨51, none⟩ body51 (T51g 12 4 r w) []) (SBL1 s b q pd c n v d m) = some (.done .normal (T51g 12 4 (andS r (subS r 1)) w') [], SBL1 s b q pd c n v (d ++ [.int .i64 n']) (m + 1)) :=
  seg 100 [(1, .br true), (3, .ov (.int .i64 n')), (5, .ok), (3, .br false)] (m := 16) (js := [0, 1, 3]) (vs := [.func (.yield 12) #[] #[], P4 4, .int .u64 (andS r (subS r 1))])
    (ob := [(r != 0) = true, (∀ σ, env7.ov 52 [.int .u64 r] 0 σ = some (.int .i64 n', σ)), d.length = d.length ∧ (m + 1) * 8 ≤ 70368744177664, (((m + 1 : Nat) : Int) == 100) = false]) (by kernel_rfl)
    ⟨h1, h2, ⟨rfl, by omega⟩, beq_eq_false_iff_ne.2 (by intro e; have e : m + 1 = 100 := Int.ofNat.inj e; omega)⟩
theorem endBL (s b q : Int) (pd : Option Code) (c : List Value) (n : Nat) (v : Value) (d : List Value) (m : Nat) (w : Nat → Value) :
    ∃ w', runW Tryd.prog env7 0 (.code ⟨51, none⟩ body51 (T51g 12 4 0 w) []) (SBL1 s b q pd c n v d m) = some (.done (.exit 0) (T51g 12 4 0 w') [], SBL1 s b q pd c n v d m) :=
  seg 100 [] (m := 16) (js := [0, 1, 3]) (vs := [.func (.yield 12) #[] #[], P4 4, .int .u64 0]) (ob := []) (by kernel_rfl) trivial
theorem loopBL (s b q : Int) (pd : Option Code) (c : List Value) (n : Nat) (v : Value) : ∀ (k : Nat) (x : BitVec 64) (d : List Value) (m : Nat) (w : Nat → Value), (bitsL x).length = k → d.length = m → m + k < 99 →
    ∃ w', runW Tryd.prog env7 0 (.code ⟨51, none⟩ (.loop body51) (T51g 12 4 (u x) w) []) (SBL1 s b q pd c n v d m) = some (.done (.exit 0) (T51g 12 4 0 w') [], SBL1 s b q pd c n v (d ++ ints (bitsL x)) (m + k)) := by
  intro k
  induction k with
  | zero =>
    intro x d m w h1 h2 h3
    have e := List.eq_nil_of_length_eq_zero h1
    rw [e, bits_ne e]
    obtain ⟨w', h⟩ := endBL s b q pd c n v d m w
    refine ⟨w', ?_⟩
    rw [show d ++ ints [] = d from List.append_nil d]
    exact loop_out (by intro h; cases h) h
  | succ k ih =>
    intro x d m w h1 h2 h3
    have hx : x ≠ 0#64 := by
      intro e; rw [e, bits_zero] at h1; cases h1
    have hb := bits_cons hx
    rw [hb] at h1
    obtain ⟨w1, h⟩ := nextBL s b q pd c n v d m (u x) (tz x) w (u_ne hx) (fun σ => ov7_52 x 0 σ) (by omega)
    rw [rest_u] at h
    obtain ⟨w', h'⟩ := ih (restB x) (d ++ [.int .i64 (tz x)]) (m + 1) w1 (by simpa using h1) (by simp [h2]) (by omega)
    refine ⟨w', ?_⟩
    rw [hb, show d ++ ints (tz x :: bitsL (restB x)) = d ++ [.int .i64 (tz x)] ++ ints (bitsL (restB x)) by simp [ints], show m + (k + 1) = m + 1 + k by omega]
    exact loop_next h h'
theorem loopBL_all (s b q : Int) (pd : Option Code) (c : List Value) (n : Nat) (v : Value) (x : BitVec 64) (w : Nat → Value) (hx : x ≠ 0#64) :
    ∃ w', runW Tryd.prog env7 0 (.code ⟨51, none⟩ (.loop body51) (T51g 12 4 (u x) w) []) (SBL0 s b q pd c n v) = some (.done (.exit 0) (T51g 12 4 0 w') [], SBL1 s b q pd c n v (ints (bitsL x)) (bitsL x).length) := by
  have hb := bits_cons hx
  obtain ⟨w1, h⟩ := nextBL_nil s b q pd c n v (u x) (tz x) w (u_ne hx) (fun σ => ov7_52 x 0 σ)
  rw [rest_u] at h
  have hl := bitsL_length x
  rw [hb, List.length_cons] at hl
  obtain ⟨w', h'⟩ := loopBL s b q pd c n v (bitsL (restB x)).length (restB x) [.int .i64 (tz x)] 1 w1 rfl rfl (by omega)
  refine ⟨w', ?_⟩
  rw [hb, show ints (tz x :: bitsL (restB x)) = [.int .i64 (tz x)] ++ ints (bitsL (restB x)) by simp [ints], List.length_cons, Nat.add_comm]
  exact loop_next h h'
end Go.Proofs.YtakchekhpeokjaaDoor

/-
  BITBOARD (chapter 05): BitboardLoops is true.
-/
namespace Go.Proofs.YtakchekhpeokjaaDoor
open Go.Va

theorem lstV_ne {x : BitVec 64} (hx : x ≠ 0#64) : lstV (bitsL x) = L (ints (bitsL x)) (bitsL x).length 1 0 := by rw [bits_cons hx]; rfl
theorem ov7_15' {x : BitVec 64} (hx : x ≠ 0#64) (σ : AS) : env7.ov 15 [.int .u64 (u x)] 0 σ = some (L (ints (bitsL x)) (bitsL x).length 1 0, σ) := by
  rw [← lstV_ne hx]; exact ov7_15 x 0 σ
theorem take_ints (l : List Nat) (q : Nat) : (ints l).take (q * 1) = ints (l.take q) := by unfold ints; rw [Nat.mul_one, List.map_take]
theorem minV (n q : Nat) : Value.int .i64 (if (n : Int) < (q : Int) then (n : Int) else (q : Int)) = .int .i64 ((min n q : Nat) : Int) := by
  congr 1
  split <;> omega

theorem eq_nn (σ : AS) : env7.ov 16 [.slice none 0 0, .slice none 0 0] 0 σ = some (.bool true, σ) :=
  ov7_16 (a' := .slice none 0 0) (b' := .slice none 0 0) 0 σ rfl rfl IsZ_nil IsZ_nil
theorem eq_n0 (σ : AS) : env7.ov 16 [.slice none 0 0, L [] 0 1 0] 0 σ = some (.bool true, σ) :=
  ov7_16 (a' := .slice none 0 0) (b' := L [] 0 1 0) 0 σ rfl rfl IsZ_nil (IsZ_L (l := []) rfl (Nat.zero_le 1) (by omega))
theorem eq_LL {l : List Nat} {n : Nat} (g : Nat) (hn : l.length = n) (h : n ≤ 64) (σ : AS) : env7.ov 16 [L (ints l) n 1 (g + 2), L (ints l) n 1 0] 0 σ = some (.bool true, σ) := by
  have h0 : IsZ (L (ints l) n 1 0) (natZ l) := IsZ_L hn (Nat.zero_le 1) (by omega)
  have := ov7_16 (a := L (ints l) n 1 (g + 2)) (b := L (ints l) n 1 0) (a' := L (ints l) n 1 0) (b' := L (ints l) n 1 0) 0 σ rfl rfl h0 h0
  rwa [beq_self_eq_true] at this
def w51 (s : Int) (j : Nat) : Value := Go.Va.look [(4, Value.int .u64 s)] j undef

theorem law4_zero (b : Int) (q : Nat) (hq : IntKind.i64.wrap (b.tmod 66) = (q : Int)) : Pure Tryd.prog 4 tabs 4 [.int .u64 (u 0#64), .int .u8 b] (.bool true) :=
  pureT t7_ok fns7 (n := 200) (v := .bool true) [(25, .ov (.slice none 0 0)), (11, .ov (.bool true)), (6, .eq (.int .i64 0)), (1, .ov (.bool true))]
    [(∀ σ, env7.ov 15 [.int .u64 (u 0#64)] 0 σ = some (.slice none 0 0, σ)), (∀ σ, env7.ov 16 [.slice none 0 0, .slice none 0 0] 0 σ = some (.bool true, σ)),
      Value.int .i64 (if (0 : Int) < IntKind.i64.wrap (b.tmod 66) then 0 else IntKind.i64.wrap (b.tmod 66)) = .int .i64 0, (∀ σ, env7.ov 16 [.slice none 0 0, .slice none 0 0] 0 σ = some (.bool true, σ))]
    (by kernel_rfl) ⟨fun σ => by have := ov7_15 0#64 0 σ; rw [bits_zero] at this; exact this, eq_nn, by rw [hq]; congr 1; split <;> omega, eq_nn⟩ rfl (.bool true)

theorem law4_none (b : Int) (x : BitVec 64) (hx : x ≠ 0#64) (hq : IntKind.i64.wrap (b.tmod 66) = ((0 : Nat) : Int)) : Pure Tryd.prog 4 tabs 4 [.int .u64 (u x), .int .u8 b] (.bool true) := by
  obtain ⟨w1, h1⟩ := loopA_none (u x) b x (w51 (u x)) hx
  rw [← hq] at h1
  obtain ⟨w2, h2⟩ := loopBN_all (u x) b (IntKind.i64.wrap (b.tmod 66)) (some (.exit 0)) (L (ints (bitsL x)) (bitsL x).length 1 0) x (w51 (u x)) hx
  have hl := bitsL_length x
  exact pureT t7_ok fns7 (n := 200) (v := .bool true)
    [(20, .skip (outA false w1) (SA0 (u x) b (IntKind.i64.wrap (b.tmod 66)) .done (some (.exit 0)))), (1, .ov (L (ints (bitsL x)) (bitsL x).length 1 0)), (5, .skip (.done (.exit 0) (T51g 11 4 0 w2) []) (SBN1 (u x) b (IntKind.i64.wrap (b.tmod 66)) (some (.exit 0)) (L (ints (bitsL x)) (bitsL x).length 1 0) (ints (bitsL x)) (bitsL x).length)),
      (2, .ov (.bool true)), (6, .eq (.int .i64 0)), (0, .ok), (0, .ov (.bool true))]
    [_, (∀ σ, env7.ov 15 [.int .u64 (u x)] 0 σ = some (L (ints (bitsL x)) (bitsL x).length 1 0, σ)), _,
      (∀ σ, env7.ov 16 [L (ints (bitsL x)) (bitsL x).length 1 14, L (ints (bitsL x)) (bitsL x).length 1 0] 0 σ = some (.bool true, σ)),
      Value.int .i64 (if ((bitsL x).length : Int) < IntKind.i64.wrap (b.tmod 66) then ((bitsL x).length : Int) else IntKind.i64.wrap (b.tmod 66)) = .int .i64 0,
      (0 : Int) ≤ 0 ∧ (0 : Int) ≤ (bitsL x).length, (∀ σ, env7.ov 16 [.slice none 0 0, L [] 0 1 0] 0 σ = some (.bool true, σ))]
    (by kernel_rfl) ⟨h1, fun σ => ov7_15' hx σ, h2, eq_LL 12 rfl hl, by rw [hq]; congr 1; all_goals (split <;> omega), ⟨by omega, by omega⟩, eq_n0⟩ rfl (.bool true)

theorem law4_some (b : Int) (q : Nat) (x : BitVec 64) (hx : x ≠ 0#64) (h0 : q ≠ 0) (hq : IntKind.i64.wrap (b.tmod 66) = (q : Int)) : Pure Tryd.prog 4 tabs 4 [.int .u64 (u x), .int .u8 b] (.bool true) := by
  obtain ⟨w1, h1⟩ := loopA_all (u x) b q x (w51 (u x)) hx h0
  have hl := bitsL_length x
  have hm : (min (bitsL x).length q : Nat) ≤ 64 := by omega
  have ht : ((bitsL x).take q).length = min (bitsL x).length q := by rw [List.length_take]; omega
  have he : ∀ σ, env7.ov 16 [L (ints ((bitsL x).take q)) (min (bitsL x).length q) 1 11, L ((ints (bitsL x)).take ((min (bitsL x).length q) * 1)) (min (bitsL x).length q) 1 0] 0 σ = some (.bool true, σ) := by
    rw [take_ints, show (bitsL x).take (min (bitsL x).length q) = (bitsL x).take q from by
      rcases Nat.le_total (bitsL x).length q with h | h
      · rw [Nat.min_eq_left h, List.take_length, List.take_of_length_le h]
      · rw [Nat.min_eq_right h]]
    exact eq_LL 9 ht hm
  have hmin : Value.int .i64 (if ((bitsL x).length : Int) < IntKind.i64.wrap (b.tmod 66) then ((bitsL x).length : Int) else IntKind.i64.wrap (b.tmod 66)) = .int .i64 ((min (bitsL x).length q : Nat) : Int) := by
    rw [hq]; exact minV _ _
  cases hf : decide ((bitsL x).length ≤ q) with
  | true =>
    rw [hf, ← hq] at h1
    obtain ⟨w2, h2⟩ := loopBL_all (u x) b (IntKind.i64.wrap (b.tmod 66)) none (ints ((bitsL x).take q)) (min (bitsL x).length q) (L (ints (bitsL x)) (bitsL x).length 1 0) x (w51 (u x)) hx
    exact pureT t7_ok fns7 (n := 200) (v := .bool true)
      [(20, .skip (outA true w1) (SA1 (u x) b (IntKind.i64.wrap (b.tmod 66)) .ready none (ints ((bitsL x).take q)) (min (bitsL x).length q))), (1, .ov (L (ints (bitsL x)) (bitsL x).length 1 0)),
        (5, .skip (.done (.exit 0) (T51g 12 4 0 w2) []) (SBL1 (u x) b (IntKind.i64.wrap (b.tmod 66)) none (ints ((bitsL x).take q)) (min (bitsL x).length q) (L (ints (bitsL x)) (bitsL x).length 1 0) (ints (bitsL x)) (bitsL x).length)),
        (2, .ov (.bool true)), (6, .eq (.int .i64 ((min (bitsL x).length q : Nat) : Int))), (0, .ok), (0, .ov (.bool true))]
      [_, (∀ σ, env7.ov 15 [.int .u64 (u x)] 0 σ = some (L (ints (bitsL x)) (bitsL x).length 1 0, σ)), _,
        (∀ σ, env7.ov 16 [L (ints (bitsL x)) (bitsL x).length 1 15, L (ints (bitsL x)) (bitsL x).length 1 0] 0 σ = some (.bool true, σ)), _,
        (0 : Int) ≤ ((min (bitsL x).length q : Nat) : Int) ∧ ((min (bitsL x).length q : Nat) : Int) ≤ (bitsL x).length, _]
      (by kernel_rfl) ⟨h1, fun σ => ov7_15' hx σ, h2, eq_LL 13 rfl hl, hmin, ⟨by omega, by omega⟩, he⟩ rfl (.bool true)
  | false =>
    rw [hf, ← hq] at h1
    obtain ⟨w2, h2⟩ := loopBL_all (u x) b (IntKind.i64.wrap (b.tmod 66)) (some (.exit 0)) (ints ((bitsL x).take q)) (min (bitsL x).length q) (L (ints (bitsL x)) (bitsL x).length 1 0) x (w51 (u x)) hx
    exact pureT t7_ok fns7 (n := 200) (v := .bool true)
      [(20, .skip (outA false w1) (SA1 (u x) b (IntKind.i64.wrap (b.tmod 66)) .done (some (.exit 0)) (ints ((bitsL x).take q)) (min (bitsL x).length q))), (1, .ov (L (ints (bitsL x)) (bitsL x).length 1 0)),
        (5, .skip (.done (.exit 0) (T51g 12 4 0 w2) []) (SBL1 (u x) b (IntKind.i64.wrap (b.tmod 66)) (some (.exit 0)) (ints ((bitsL x).take q)) (min (bitsL x).length q) (L (ints (bitsL x)) (bitsL x).length 1 0) (ints (bitsL x)) (bitsL x).length)),
        (2, .ov (.bool true)), (6, .eq (.int .i64 ((min (bitsL x).length q : Nat) : Int))), (0, .ok), (0, .ov (.bool true))]
      [_, (∀ σ, env7.ov 15 [.int .u64 (u x)] 0 σ = some (L (ints (bitsL x)) (bitsL x).length 1 0, σ)), _,
        (∀ σ, env7.ov 16 [L (ints (bitsL x)) (bitsL x).length 1 15, L (ints (bitsL x)) (bitsL x).length 1 0] 0 σ = some (.bool true, σ)), _,
        (0 : Int) ≤ ((min (bitsL x).length q : Nat) : Int) ∧ ((min (bitsL x).length q : Nat) : Int) ≤ (bitsL x).length, _]
      (by kernel_rfl) ⟨h1, fun σ => ov7_15' hx σ, h2, eq_LL 13 rfl hl, hmin, ⟨by omega, by omega⟩, he⟩ rfl (.bool true)

theorem law4' (s b : Int) (h0 : IntKind.u64.min ≤ s) (h1 : s ≤ IntKind.u64.max) (h2 : IntKind.u8.min ≤ b) (h3 : b ≤ IntKind.u8.max) : Pure Tryd.prog 4 tabs 4 [.int .u64 s, .int .u8 b] (.bool true) := by
  have a0 : (0 : Int) ≤ s := h0
  have a1 : s ≤ 18446744073709551615 := h1
  have a2 : (0 : Int) ≤ b := h2
  have a3 : b ≤ 255 := h3
  have hs := u_of s a0 (by omega)
  rw [hs]
  obtain ⟨q, hq⟩ : ∃ q : Nat, IntKind.i64.wrap (b.tmod 66) = (q : Int) := by
    refine ⟨(b % 66).toNat, ?_⟩
    rw [Int.tmod_eq_emod_of_nonneg a2, wrap64 (by omega) (by omega)]
    omega
  by_cases hx : BitVec.ofInt 64 s = 0#64
  · rw [hx]; exact law4_zero b q hq
  · by_cases hz : q = 0
    · subst hz; exact law4_none b _ hx hq
    · exact law4_some b q _ hx hz hq
end Go.Proofs.YtakchekhpeokjaaDoor

/-
  BITBOARD (chapter 05): BitboardSquares is true.
-/
namespace Go.Proofs.YtakchekhpeokjaaDoor
open Go.Va

theorem natZ_sorted (x : BitVec 64) : (natZ (bitsL x)).Pairwise (· < ·) := by
  unfold natZ
  rw [List.pairwise_map]
  exact (bitsL_sorted x).imp fun h => by omega
theorem setOf_bit (l : List Nat) : ∀ (a : BitVec 64) (j : Nat), j < 64 → ((natZ l).foldl (fun x n => x ||| 1#64 <<< n.toNat) a).getLsbD j = (a.getLsbD j || decide (j ∈ l)) := by
  induction l with
  | nil => intro a j _; simp [natZ]
  | cons n l ih =>
    intro a j hj
    rw [show natZ (n :: l) = (n : Int) :: natZ l from rfl, List.foldl_cons, ih _ j hj, Int.toNat_natCast, BitVec.getLsbD_or]
    have : (1#64 <<< n).getLsbD j = decide (j = n) := by
      rw [BitVec.getLsbD_shiftLeft, BitVec.getLsbD_one]
      by_cases e : j = n
      · subst e; simp [hj]
      · by_cases h2 : j < n
        · simp [h2, e]
        · have h3 : j - n ≠ 0 := by omega
          simp [h3, e]
    rw [this, Bool.or_assoc]
    congr 1
    by_cases e : j = n <;> by_cases h : j ∈ l <;> simp [e, h]
theorem natZ_app (l m : List Nat) : natZ (l ++ m) = natZ l ++ natZ m := List.map_append
theorem ints_app (l m : List Nat) : ints (l ++ m) = ints l ++ ints m := List.map_append
/-- Of, of the squares twice. -/
theorem ofV_twice (x : BitVec 64) : ofV (natZ (bitsL x ++ bitsL x)) = .tuple #[.int .u64 (u x), .int .i64 0] := by
  have h1 : (natZ (bitsL x ++ bitsL x)).all (fun n => inr n 64) = true := by
    refine List.all_eq_true.2 fun n hn => ?_
    obtain ⟨j, hj, rfl⟩ := List.mem_map.1 hn
    have : j < 64 := by
      rcases List.mem_append.1 hj with h | h <;> exact (bitsL_mem.1 h).1
    exact inr_true (by omega) (by omega)
  have h2 : setOf (natZ (bitsL x ++ bitsL x)) = x := by
    refine BitVec.eq_of_getLsbD_eq fun j hj => ?_
    unfold setOf
    rw [setOf_bit _ _ _ hj]
    have : decide (j ∈ bitsL x ++ bitsL x) = x.getLsbD j := by
      cases h : x.getLsbD j with
      | true => exact decide_eq_true (List.mem_append_left _ (bitsL_mem.2 ⟨hj, h⟩))
      | false =>
        refine decide_eq_false fun hm => ?_
        rcases List.mem_append.1 hm with hm | hm <;> (rw [(bitsL_mem.1 hm).2] at h; cases h)
    rw [this]; simp
  unfold ofV
  rw [h1, h2, cond_true]

noncomputable def SE (x : BitVec 64) : AS := ((S1 (u x) (ints (bitsL x)) (bitsL x).length).put 6 (some (.obj (.deferred none)))).put 7 (some (.obj (.loop { lp15 (u x) with state := .exhausted })))
noncomputable def SEn : AS := ((S0 (u 0#64)).put 6 (some (.obj (.deferred none)))).put 7 (some (.obj (.loop { lp15 (u 0#64) with state := .exhausted })))
def w8 (v : Value) (x : BitVec 64) (n : Int) (j : Nat) : Value :=
  Go.Va.look [(2, Value.bool false), (16, .int .u64 (u x)), (17, .int .u64 (u x)), (18, v), (19, .int .u64 (u x)), (20, .int .i64 n), (21, .int .u64 (u x)), (22, .int .i64 n), (23, .bool false), (24, .bool false), (25, v), (26, .int .i64 n), (27, .int .u64 (u x)), (28, .int .i64 n),
    (29, .bool false), (30, .bool false), (31, .bool false), (32, v), (33, .bool true), (34, .bool false), (35, .bool false)] j undef

theorem law8_some (x : BitVec 64) (hx : x ≠ 0#64) : Pure Tryd.prog 4 tabs 8 [.int .u64 (u x)] (.bool true) := by
  obtain ⟨w1, h1⟩ := loop51_alle8 (u x) x (w51 (u x)) hx
  have hl := bitsL_length x
  have hz : IsZ (L (ints (bitsL x)) (bitsL x).length 1 0) (natZ (bitsL x)) := IsZ_L rfl (Nat.zero_le 1) (by omega)
  obtain ⟨w2, h2⟩ := loop8l (ints (bitsL x)) (bitsL x).length (L (ints (bitsL x)) (bitsL x).length 1 0) x (SE x) rfl hz 64 0 (w8 (L (ints (bitsL x)) (bitsL x).length 1 10) x (bitsL x).length) rfl
  have hz2 : IsZ (L (ints (bitsL x) ++ ints (bitsL x)) ((bitsL x).length + (bitsL x).length) 1 0) (natZ (bitsL x ++ bitsL x)) := by
    rw [← ints_app]
    exact IsZ_L (List.length_append ..) (Nat.zero_le 1) (by omega)
  have h36 : ∀ σ, env8.ov 36 [L (ints (bitsL x) ++ ints (bitsL x)) ((bitsL x).length + (bitsL x).length) 1 10] 0 σ = some (.tuple #[.int .u64 (u x), .int .i64 0], σ) := fun σ => by
    rw [ov8_36 (a' := L (ints (bitsL x) ++ ints (bitsL x)) ((bitsL x).length + (bitsL x).length) 1 0) 0 σ rfl hz2, ofV_twice]
  have h21 : ∀ σ, env8.ov 21 [.int .u64 (u x)] 0 σ = some (.tuple #[.int .i64 (tz x), .bool true], σ) := fun σ => by
    rw [ov8_21]; unfold lowV; rw [beq_eq_false_iff_ne.2 hx]; rfl
  have hne : (bitsL x).length ≠ 0 := by rw [bits_cons hx]; simp
  have hget : (ints (bitsL x))[0]? = some (.int .i64 (tz x)) := by rw [bits_cons hx]; rfl
  exact pureT t8_ok fns8 (n := 1000) (v := .bool true)
    [(20, .skip (.done (.exit 0) (T51 0 w1) []) (S1 (u x) (ints (bitsL x)) (bitsL x).length)), (4, .ov (.int .i64 ((bitsL x).length : Int))), (1, .ov (.int .i64 ((bitsL x).length : Int))), (0, .br false), (4, .ov (.int .i64 ((bitsL x).length : Int))), (0, .br false), (3, .ov (.bool true)),
      (5, .skip (.done (.exit 0) (T8 (L (ints (bitsL x)) (bitsL x).length 1 10) (u x) (u x) 64 w2) []) (SE x)), (1, .ov (.tuple #[.int .i64 (tz x), .bool true])), (7, .ok), (0, .ov (.tuple #[.int .u64 (u x), .int .i64 0])), (7, .br true), (3, .br true), (8, .br true), (12, .ok), (0, .is (.int .i64 (tz x))), (0, .br true)]
    [_, (∀ σ, env8.ov 24 [.int .u64 (u x)] 0 σ = some (.int .i64 ((bitsL x).length : Int), σ)), (∀ σ, env8.ov 37 [.int .u64 (u x)] 0 σ = some (.int .i64 ((bitsL x).length : Int), σ)), (((bitsL x).length : Int) != (bitsL x).length) = false,
      (∀ σ, env8.ov 24 [.int .u64 (u x)] 0 σ = some (.int .i64 ((bitsL x).length : Int), σ)), (((bitsL x).length : Int) != (bitsL x).length) = false, (∀ σ, env8.ov 38 [L (ints (bitsL x)) (bitsL x).length 1 10] 0 σ = some (.bool true, σ)), _, _,
      (ints (bitsL x)).length = (ints (bitsL x)).length ∧ ((bitsL x).length + (bitsL x).length) * 8 ≤ 70368744177664, _, (u x == u x) = true, (u x == u x) = true, (u x != 0) = true, (0 : Int) ≤ 0 ∧ (0 : Int) < (bitsL x).length, (ints (bitsL x))[0]? = some (.int .i64 (tz x)), ((tz x : Int) == tz x) = true]
    (by kernel_rfl) ⟨h1, fun σ => ov8_24 x 0 σ, fun σ => ov8_37 x 0 σ, bne_self_eq_false _, fun σ => ov8_24 x 0 σ, bne_self_eq_false _, fun σ => ov8_38 (a' := L (ints (bitsL x)) (bitsL x).length 1 0) 0 σ rfl hz (natZ_sorted x), h2, h21, ⟨rfl, by omega⟩, h36, beq_self_eq_true _, beq_self_eq_true _, u_ne hx, ⟨by omega, by omega⟩, hget, beq_self_eq_true _⟩ rfl (.bool true)
theorem law8_zero : Pure Tryd.prog 4 tabs 8 [.int .u64 (u 0#64)] (.bool true) := by
  have hz : IsZ (.slice none 0 0) (natZ (bitsL 0#64)) := by rw [bits_zero]; exact IsZ_nil
  obtain ⟨w2, h2⟩ := loop8n (.slice none 0 0) 0#64 SEn rfl hz 64 0 (w8 (.slice none 0 0) 0#64 0) rfl
  have h24 : ∀ σ, env8.ov 24 [.int .u64 (u 0#64)] 0 σ = some (.int .i64 0, σ) := fun σ => by rw [ov8_24, bits_zero]; rfl
  have h37 : ∀ σ, env8.ov 37 [.int .u64 (u 0#64)] 0 σ = some (.int .i64 0, σ) := fun σ => by rw [ov8_37, bits_zero]; rfl
  have h38 : ∀ σ, env8.ov 38 [.slice none 0 0] 0 σ = some (.bool true, σ) := fun σ => ov8_38 (a' := .slice none 0 0) 0 σ rfl hz (natZ_sorted 0#64)
  have h21 : ∀ σ, env8.ov 21 [.int .u64 (u 0#64)] 0 σ = some (.tuple #[.int .i64 0, .bool false], σ) := fun σ => ov8_21 0#64 0 σ
  have h36 : ∀ σ, env8.ov 36 [.slice none 0 0] 0 σ = some (.tuple #[.int .u64 (u 0#64), .int .i64 0], σ) := fun σ => ov8_36 (a' := .slice none 0 0) 0 σ rfl IsZ_nil
  exact pureT t8_ok fns8 (n := 1000) (v := .bool true)
    [(28, .ov (.int .i64 0)), (1, .ov (.int .i64 0)), (5, .ov (.int .i64 0)), (4, .ov (.bool true)), (5, .skip (.done (.exit 0) (T8 (.slice none 0 0) (u 0#64) (u 0#64) 64 w2) []) SEn), (1, .ov (.tuple #[.int .i64 0, .bool false])), (8, .ov (.tuple #[.int .u64 (u 0#64), .int .i64 0]))]
    [(∀ σ, env8.ov 24 [.int .u64 (u 0#64)] 0 σ = some (.int .i64 0, σ)), (∀ σ, env8.ov 37 [.int .u64 (u 0#64)] 0 σ = some (.int .i64 0, σ)), (∀ σ, env8.ov 24 [.int .u64 (u 0#64)] 0 σ = some (.int .i64 0, σ)), (∀ σ, env8.ov 38 [.slice none 0 0] 0 σ = some (.bool true, σ)), _,
      (∀ σ, env8.ov 21 [.int .u64 (u 0#64)] 0 σ = some (.tuple #[.int .i64 0, .bool false], σ)), (∀ σ, env8.ov 36 [.slice none 0 0] 0 σ = some (.tuple #[.int .u64 (u 0#64), .int .i64 0], σ))]
    (by kernel_rfl) ⟨h24, h37, h24, h38, h2, h21, h36⟩ rfl (.bool true)
theorem law8' (s : Int) (h0 : IntKind.u64.min ≤ s) (h1 : s ≤ IntKind.u64.max) : Pure Tryd.prog 4 tabs 8 [.int .u64 s] (.bool true) := by
  have a0 : (0 : Int) ≤ s := h0
  have a1 : s ≤ 18446744073709551615 := h1
  rw [u_of s a0 (by omega)]
  by_cases hx : BitVec.ofInt 64 s = 0#64
  · rw [hx]; exact law8_zero
  · exact law8_some _ hx
end Go.Proofs.YtakchekhpeokjaaDoor

/-
  BITBOARD (chapter 05): the document's With, Without, Lowest, Len. Printed by gen05rd.py.
-/
namespace Go.Proofs.YtakchekhpeokjaaDoor
open Go.Va

noncomputable def t10 : Ktab := (43, k36) :: (15, k15) :: t9
theorem t10_ok : TOk Tryd.prog 4 tabs t10 := ⟨p43, t7_ok.1, t9_ok⟩
noncomputable def env10 : Env := envT t10
set_option maxRecDepth 100000 in
theorem fns10 : fnB Tryd.prog 4 env10 okL = true := by kernel_rfl
theorem ov10_23 (x : BitVec 64) (n : Int) (lim : Nat) (σ : AS) : env10.ov 23 [.int .u64 (u x), .int .i64 n] lim σ = some (.bool (hasS (u x) n), σ) :=
  envK rfl rfl rfl rfl (by unfold t10 t9; rw [pfT_ne rfl, pfT_ne rfl, pfT_eq]; unfold k23; dsimp only; rw [inU_u, cond_true])
theorem ov10_43 {a a' : Value} {l : List Int} (lim : Nat) (σ : AS) (ea : strip a = a') (ha : IsZ a' l) : env10.ov 43 [a] lim σ = some (ofV l, σ) :=
  envZ rfl rfl ea ha (by unfold t10; rw [pfT_eq]; unfold k36; dsimp only; rw [zl_eq ha])
theorem in26_nilt (s i : Int) (w : Nat → Value) (h1 : decide (i < 64) = true) (h2 : ∀ σ, env10.ov 23 [.int .u64 s, .int .i64 i] 0 σ = some (.bool true, σ)) :
    ∃ w', runW Tryd.prog env10 0 (.code ⟨26, none⟩ body26 (T26 (.slice none 0 0) s i w) []) (base0 4 tabs) = some (.done .normal (T26 (L [.int .i64 i] 1 1 6) s (IntKind.i64.wrap (i + 1)) w') [], R1 [.int .i64 i]) :=
  seg 100 [(1, .br true), (3, .ov (.bool true))] (m := 17) (js := [0, 3, 4]) (vs := [.int .u64 s, L [.int .i64 i] 1 1 6, .int .i64 (IntKind.i64.wrap (i + 1))])
    (ob := [decide (i < 64) = true, (∀ σ, env10.ov 23 [.int .u64 s, .int .i64 i] 0 σ = some (.bool true, σ))]) (by kernel_rfl) ⟨h1, h2⟩
theorem in26t (s i : Int) (c : List Value) (n : Nat) (w : Nat → Value) (h1 : decide (i < 64) = true) (h2 : ∀ σ, env10.ov 23 [.int .u64 s, .int .i64 i] 0 σ = some (.bool true, σ)) (h3 : n < 99) :
    ∃ w', runW Tryd.prog env10 0 (.code ⟨26, none⟩ body26 (T26 (L c n 1 6) s i w) []) (R1 c) = some (.done .normal (T26 (L (c ++ [.int .i64 i]) (n + 1) 1 6) s (IntKind.i64.wrap (i + 1)) w') [], R1 (c ++ [.int .i64 i])) :=
  seg 100 [(1, .br true), (3, .ov (.bool true)), (4, .ok)] (m := 17) (js := [0, 3, 4]) (vs := [.int .u64 s, L (c ++ [.int .i64 i]) (n + 1) 1 6, .int .i64 (IntKind.i64.wrap (i + 1))])
    (ob := [decide (i < 64) = true, (∀ σ, env10.ov 23 [.int .u64 s, .int .i64 i] 0 σ = some (.bool true, σ)), c.length = c.length ∧ (n + 1) * 8 ≤ 70368744177664]) (by kernel_rfl) ⟨h1, h2, rfl, by omega⟩
theorem out26_nilt (s i : Int) (σ : AS) (w : Nat → Value) (h1 : decide (i < 64) = true) (h2 : ∀ σ, env10.ov 23 [.int .u64 s, .int .i64 i] 0 σ = some (.bool false, σ)) :
    ∃ w', runW Tryd.prog env10 0 (.code ⟨26, none⟩ body26 (T26 (.slice none 0 0) s i w) []) σ = some (.done .normal (T26 (.slice none 0 0) s (IntKind.i64.wrap (i + 1)) w') [], σ) :=
  seg 100 [(1, .br true), (3, .ov (.bool false))] (m := 17) (js := [0, 3, 4]) (vs := [.int .u64 s, .slice none 0 0, .int .i64 (IntKind.i64.wrap (i + 1))])
    (ob := [decide (i < 64) = true, (∀ σ, env10.ov 23 [.int .u64 s, .int .i64 i] 0 σ = some (.bool false, σ))]) (by kernel_rfl) ⟨h1, h2⟩
theorem out26t (s i : Int) (c : List Value) (n : Nat) (σ : AS) (w : Nat → Value) (h1 : decide (i < 64) = true) (h2 : ∀ σ, env10.ov 23 [.int .u64 s, .int .i64 i] 0 σ = some (.bool false, σ)) :
    ∃ w', runW Tryd.prog env10 0 (.code ⟨26, none⟩ body26 (T26 (L c n 1 6) s i w) []) σ = some (.done .normal (T26 (L c n 1 6) s (IntKind.i64.wrap (i + 1)) w') [], σ) :=
  seg 100 [(1, .br true), (3, .ov (.bool false))] (m := 17) (js := [0, 3, 4]) (vs := [.int .u64 s, L c n 1 6, .int .i64 (IntKind.i64.wrap (i + 1))])
    (ob := [decide (i < 64) = true, (∀ σ, env10.ov 23 [.int .u64 s, .int .i64 i] 0 σ = some (.bool false, σ))]) (by kernel_rfl) ⟨h1, h2⟩
theorem end26_nilt (s : Int) (σ : AS) (w : Nat → Value) :
    ∃ w', runW Tryd.prog env10 0 (.code ⟨26, none⟩ body26 (T26 (.slice none 0 0) s 64 w) []) σ = some (.done (.exit 0) (T26 (.slice none 0 0) s 64 w') [], σ) :=
  seg 100 [] (m := 17) (js := [0, 3, 4]) (vs := [.int .u64 s, .slice none 0 0, .int .i64 64]) (ob := []) (by kernel_rfl) trivial
theorem end26t (s : Int) (c : List Value) (n : Nat) (σ : AS) (w : Nat → Value) :
    ∃ w', runW Tryd.prog env10 0 (.code ⟨26, none⟩ body26 (T26 (L c n 1 6) s 64 w) []) σ = some (.done (.exit 0) (T26 (L c n 1 6) s 64 w') [], σ) :=
  seg 100 [] (m := 17) (js := [0, 3, 4]) (vs := [.int .u64 s, L c n 1 6, .int .i64 64]) (ob := []) (by kernel_rfl) trivial

theorem step26t (x : BitVec 64) (i : Nat) (w : Nat → Value) (hi : i < 64) :
    ∃ w', runW Tryd.prog env10 0 (.code ⟨26, none⟩ body26 (T26 (LV (upTo x i)) (u x) i w) []) (ST (upTo x i)) = some (.done .normal (T26 (LV (upTo x (i + 1))) (u x) ((i + 1 : Nat) : Int) w') [], ST (upTo x (i + 1))) := by
  have e1 : IntKind.i64.wrap ((i : Int) + 1) = ((i + 1 : Nat) : Int) := by rw [wrap64 (by omega) (by omega)]; rfl
  have h2 : ∀ σ, env10.ov 23 [.int .u64 (u x), .int .i64 i] 0 σ = some (.bool (x.getLsbD i), σ) := fun σ => by
    rw [ov10_23, hasS_u x i (by omega) (by omega), Int.toNat_natCast]
  have h1 : decide ((i : Int) < 64) = true := decide_eq_true (by omega)
  rw [← e1, upTo_succ]
  have hlen := upTo_len x i
  cases h : x.getLsbD i with
  | true =>
    rw [h] at h2
    rw [cond_true]
    cases hp : upTo x i with
    | nil => exact in26_nilt (u x) i w h1 h2
    | cons a p =>
      rw [hp] at hlen
      obtain ⟨w', h3⟩ := in26t (u x) i (ints (a :: p)) (a :: p).length w h1 h2 (by omega)
      refine ⟨w', ?_⟩
      rw [List.cons_append, LV_cons, ST_cons, LV_cons, ST_cons, show ints (a :: (p ++ [i])) = ints (a :: p) ++ [.int .i64 (i : Int)] by simp [ints], show (a :: (p ++ [i])).length = (a :: p).length + 1 by simp]
      exact h3
  | false =>
    rw [h] at h2
    rw [cond_false, List.append_nil]
    cases hp : upTo x i with
    | nil => exact out26_nilt (u x) i _ w h1 h2
    | cons a p => exact out26t (u x) i (ints (a :: p)) (a :: p).length _ w h1 h2
theorem loop26t (x : BitVec 64) : ∀ (k i : Nat) (w : Nat → Value), i + k = 64 →
    ∃ w', runW Tryd.prog env10 0 (.code ⟨26, none⟩ (.loop body26) (T26 (LV (upTo x i)) (u x) i w) []) (ST (upTo x i)) = some (.done (.exit 0) (T26 (LV (bitsL x)) (u x) 64 w') [], ST (bitsL x)) := by
  intro k
  induction k with
  | zero =>
    intro i w hi
    obtain rfl : i = 64 := by omega
    rw [show upTo x 64 = bitsL x from rfl]
    have : ∃ w', runW Tryd.prog env10 0 (.code ⟨26, none⟩ body26 (T26 (LV (bitsL x)) (u x) 64 w) []) (ST (bitsL x)) = some (.done (.exit 0) (T26 (LV (bitsL x)) (u x) 64 w') [], ST (bitsL x)) := by
      cases hp : bitsL x with
      | nil => exact end26_nilt (u x) _ w
      | cons a p => exact end26t (u x) (ints (a :: p)) (a :: p).length _ w
    obtain ⟨w', h⟩ := this
    exact ⟨w', loop_out (by intro h; cases h) h⟩
  | succ k ih =>
    intro i w hi
    obtain ⟨w1, h1⟩ := step26t x i w (by omega)
    obtain ⟨w', h2⟩ := ih (i + 1) w1 (by omega)
    exact ⟨w', loop_next h1 h2⟩
/-- From the start. -/
theorem loop26_allt (x : BitVec 64) (w : Nat → Value) :
    ∃ w', runW Tryd.prog env10 0 (.code ⟨26, none⟩ (.loop body26) (T26 (.slice none 0 0) (u x) 0 w) []) (base0 4 tabs) = some (.done (.exit 0) (T26 (LV (bitsL x)) (u x) 64 w') [], ST (bitsL x)) := loop26t x 64 0 w rfl
theorem p25 (x : BitVec 64) : Pure Tryd.prog 4 tabs 25 [.int .u64 (u x)] (.int .i64 ((bitsL x).length : Int)) := by
  obtain ⟨w', h⟩ := loop26_allt x (fun j => Go.Va.look [(2, Value.slice none 0 0)] j undef)
  cases hp : bitsL x with
  | nil =>
    rw [hp] at h
    exact pureT t10_ok fns10 (n := 100) (v := .int .i64 0) [(6, .skip (.done (.exit 0) (T26 (.slice none 0 0) (u x) 64 w') []) (base0 4 tabs))] [_] (by kernel_rfl) h rfl (.int _ _)
  | cons a p =>
    rw [hp] at h
    exact pureT t10_ok fns10 (n := 100) (v := .int .i64 ((a :: p).length : Int)) [(6, .skip (.done (.exit 0) (T26 (L (ints (a :: p)) (a :: p).length 1 6) (u x) 64 w') []) (R1 (ints (a :: p))))] [_] (by kernel_rfl) h rfl (.int _ _)
theorem p22 (x : BitVec 64) : Pure Tryd.prog 4 tabs 22 [.int .u64 (u x)] (lowV x) := by
  obtain ⟨w', h⟩ := loop26_allt x (fun j => Go.Va.look [(2, Value.slice none 0 0)] j undef)
  have htz : tz x = (bitsL x).headD 64 := rfl
  cases hp : bitsL x with
  | nil =>
    rw [hp] at h
    rw [bits_ne hp] at h ⊢
    exact pureT t10_ok fns10 (n := 100) (v := .tuple #[.int .i64 0, .bool false]) [(7, .skip (.done (.exit 0) (T26 (.slice none 0 0) (u 0#64) 64 w') []) (base0 4 tabs))] [_] (by kernel_rfl) h rfl (PF_pair (.int _ _) (.bool _))
  | cons a p =>
    have hx : x ≠ 0#64 := by intro e; rw [e, bits_zero] at hp; cases hp
    have : lowV x = .tuple #[.int .i64 (tz x), .bool true] := by
      unfold lowV; rw [beq_eq_false_iff_ne.2 hx]; rfl
    rw [this, htz]
    rw [hp] at h ⊢
    exact pureT t10_ok fns10 (n := 100) (v := .tuple #[.int .i64 (a : Int), .bool true]) [(7, .skip (.done (.exit 0) (T26 (L (ints (a :: p)) (a :: p).length 1 6) (u x) 64 w') []) (R1 (ints (a :: p)))), (5, .br false)] [_, (((a :: p).length : Int) == 0) = false]
      (by kernel_rfl) ⟨h, beq_eq_false_iff_ne.2 (by simp only [List.length_cons]; omega)⟩ rfl (PF_pair (.int _ _) (.bool _))

/-! ## With, Without -/

theorem setOf_bits (x : BitVec 64) : setOf (natZ (bitsL x)) = x := by
  refine BitVec.eq_of_getLsbD_eq fun j hj => ?_
  unfold setOf
  rw [setOf_bit _ _ _ hj]
  have : decide (j ∈ bitsL x) = x.getLsbD j := by
    cases h : x.getLsbD j with
    | true => exact decide_eq_true (bitsL_mem.2 ⟨hj, h⟩)
    | false =>
      refine decide_eq_false fun hm => ?_
      rw [(bitsL_mem.1 hm).2] at h; cases h
  rw [this]; simp
theorem ofV_with (x : BitVec 64) (i : Nat) (hi : i < 64) : ofV (natZ (bitsL x ++ [i])) = withV (u x) i := by
  have h1 : (natZ (bitsL x ++ [i])).all (fun n => inr n 64) = true := by
    refine List.all_eq_true.2 fun n hn => ?_
    obtain ⟨j, hj, rfl⟩ := List.mem_map.1 hn
    have : j < 64 := by
      rcases List.mem_append.1 hj with h | h
      · exact (bitsL_mem.1 h).1
      · rw [List.mem_singleton] at h; omega
    exact inr_true (by omega) (by omega)
  rw [withV_u x i hi]
  unfold ofV
  rw [h1, cond_true]
  have : setOf (natZ (bitsL x ++ [i])) = x ||| 1#64 <<< i := by
    rw [natZ_app]
    unfold setOf
    rw [List.foldl_append, show (natZ (bitsL x)).foldl (fun x n => x ||| 1#64 <<< n.toNat) 0#64 = x from setOf_bits x]
    rfl
  rw [this]
theorem p18 (x : BitVec 64) (n : Int) : Pure Tryd.prog 4 tabs 18 [.int .u64 (u x), .int .i64 n] (withV (u x) n) := by
  refine three n 64 (fun h => ?_) (fun h g => ?_) fun h g h0 => ?_
  · rw [show withV (u x) n = .tuple #[.int .u64 0, .int .i64 3] by simp [withV, withS, okOr, inr_neg h]]
    exact pureT t10_ok fns10 (n := 100) (v := .tuple #[.int .u64 0, .int .i64 3]) [(6, .br false)] [decide (n ≥ 0) = false] (by kernel_rfl) h rfl (PF_pair (.int _ _) (.int _ _))
  · rw [show withV (u x) n = .tuple #[.int .u64 0, .int .i64 3] by simp [withV, withS, okOr, inr_big g]]
    exact pureT t10_ok fns10 (n := 100) (v := .tuple #[.int .u64 0, .int .i64 3]) [(6, .br true), (2, .br false)] [decide (n ≥ 0) = true, decide (n < 64) = false] (by kernel_rfl) ⟨h, g⟩ rfl (PF_pair (.int _ _) (.int _ _))
  · have hn : n < 64 := of_decide_eq_true g
    obtain ⟨i, rfl⟩ : ∃ i : Nat, n = i := ⟨n.toNat, by omega⟩
    obtain ⟨w', hw⟩ := loop26_allt x (fun j => Go.Va.look [(2, Value.slice none 0 0)] j undef)
    have hl := bitsL_length x
    rw [withV_u x i (by omega)]
    have hz : IsZ (L (ints (bitsL x ++ [i])) ((bitsL x).length + 1) 1 0) (natZ (bitsL x ++ [i])) := IsZ_L (by simp) (Nat.zero_le 1) (by omega)
    have h43 : ∀ σ, env10.ov 43 [L (ints (bitsL x ++ [i])) ((bitsL x).length + 1) 1 6] 0 σ = some (.tuple #[.int .u64 (u (x ||| 1#64 <<< i)), .int .i64 0], σ) := fun σ => by
      rw [ov10_43 (a' := L (ints (bitsL x ++ [i])) ((bitsL x).length + 1) 1 0) 0 σ rfl hz, ofV_with x i (by omega), withV_u x i (by omega)]
    rw [ints_app] at h43
    cases hp : bitsL x with
    | nil =>
      rw [hp] at hw h43
      exact pureT t10_ok fns10 (n := 100) (v := .tuple #[.int .u64 (u (x ||| 1#64 <<< i)), .int .i64 0]) [(6, .br true), (2, .br true), (9, .skip (.done (.exit 0) (T26 (.slice none 0 0) (u x) 64 w') []) (base0 4 tabs)), (5, .ov (.tuple #[.int .u64 (u (x ||| 1#64 <<< i)), .int .i64 0]))]
        [decide ((i : Int) ≥ 0) = true, decide ((i : Int) < 64) = true, _, _] (by kernel_rfl) ⟨h, g, hw, h43⟩ rfl (PF_pair (.int _ _) (.int _ _))
    | cons a p =>
      rw [hp] at hw h43 hl
      exact pureT t10_ok fns10 (n := 100) (v := .tuple #[.int .u64 (u (x ||| 1#64 <<< i)), .int .i64 0]) [(6, .br true), (2, .br true), (9, .skip (.done (.exit 0) (T26 (L (ints (a :: p)) (a :: p).length 1 6) (u x) 64 w') []) (R1 (ints (a :: p)))), (4, .ok), (0, .ov (.tuple #[.int .u64 (u (x ||| 1#64 <<< i)), .int .i64 0]))]
        [decide ((i : Int) ≥ 0) = true, decide ((i : Int) < 64) = true, _, (ints (a :: p)).length = (ints (a :: p)).length ∧ ((a :: p).length + 1) * 8 ≤ 70368744177664, _] (by kernel_rfl) ⟨h, g, hw, ⟨rfl, by omega⟩, h43⟩ rfl (PF_pair (.int _ _) (.int _ _))
theorem subS_u (x y : BitVec 64) : subS (u x) (u y) = u (x - y) := by
  unfold subS
  have h1 := x.isLt
  have h2 := y.isLt
  unfold u IntKind.wrap
  rw [BitVec.toNat_sub]
  simp only [IntKind.signed, Bool.false_and, Bool.false_eq_true, if_false]
  show ((x.toNat : Int) - y.toNat) % (2 ^ 64 : Int) = ((2 ^ 64 - y.toNat + x.toNat) % 2 ^ 64 : Nat)
  omega
theorem sub_bit (x : BitVec 64) (i : Nat) (hi : i < 64) (h : x.getLsbD i = true) : x - 1#64 <<< i = x &&& ~~~ (1#64 <<< i) := by
  have e : (x &&& ~~~ (1#64 <<< i)) + 1#64 <<< i = x := by
    rw [add_bit _ i hi (by rw [BitVec.getLsbD_and, BitVec.getLsbD_not, BitVec.getLsbD_shiftLeft, BitVec.getLsbD_one]; simp [hi])]
    refine BitVec.eq_of_getLsbD_eq fun j hj => ?_
    rw [BitVec.getLsbD_or, BitVec.getLsbD_and, BitVec.getLsbD_not]
    by_cases e : j = i
    · subst e; rw [h, BitVec.getLsbD_shiftLeft, BitVec.getLsbD_one]; simp [hi]
    · have : (1#64 <<< i).getLsbD j = false := by
        rw [BitVec.getLsbD_shiftLeft, BitVec.getLsbD_one]
        by_cases h2 : j < i
        · simp [h2]
        · have h3 : j - i ≠ 0 := by omega
          simp [h3]
      rw [this]; simp [hj]
  calc x - 1#64 <<< i = (x &&& ~~~ (1#64 <<< i)) + 1#64 <<< i - 1#64 <<< i := by rw [e]
    _ = _ := BitVec.add_sub_cancel _ _
theorem no_bit (x : BitVec 64) (i : Nat) (hi : i < 64) (h : x.getLsbD i = false) : x &&& ~~~ (1#64 <<< i) = x := by
  refine BitVec.eq_of_getLsbD_eq fun j hj => ?_
  rw [BitVec.getLsbD_and, BitVec.getLsbD_not]
  by_cases e : j = i
  · subst e; rw [h]; rfl
  · have : (1#64 <<< i).getLsbD j = false := by
      rw [BitVec.getLsbD_shiftLeft, BitVec.getLsbD_one]
      by_cases h2 : j < i
      · simp [h2]
      · have h3 : j - i ≠ 0 := by omega
        simp [h3]
    rw [this]; simp [hj]
theorem p20 (x : BitVec 64) (n : Int) : Pure Tryd.prog 4 tabs 20 [.int .u64 (u x), .int .i64 n] (wioV (u x) n) := by
  refine three n 64 (fun h => ?_) (fun h g => ?_) fun h g h0 => ?_
  · rw [show wioV (u x) n = .tuple #[.int .u64 0, .int .i64 3] by simp [wioV, wioS, okOr, inr_neg h]]
    exact pureT t10_ok fns10 (n := 100) (v := .tuple #[.int .u64 0, .int .i64 3]) [(6, .br false)] [decide (n ≥ 0) = false] (by kernel_rfl) h rfl (PF_pair (.int _ _) (.int _ _))
  · rw [show wioV (u x) n = .tuple #[.int .u64 0, .int .i64 3] by simp [wioV, wioS, okOr, inr_big g]]
    exact pureT t10_ok fns10 (n := 100) (v := .tuple #[.int .u64 0, .int .i64 3]) [(6, .br true), (2, .br false)] [decide (n ≥ 0) = true, decide (n < 64) = false] (by kernel_rfl) ⟨h, g⟩ rfl (PF_pair (.int _ _) (.int _ _))
  · have hn : n < 64 := of_decide_eq_true g
    obtain ⟨i, rfl⟩ : ∃ i : Nat, n = i := ⟨n.toNat, by omega⟩
    have hi : i < 64 := by omega
    have ew : IntKind.u64.wrap (i : Int) = (i : Int) := wrap_fits .u64 (by show (0 : Int) ≤ _; omega) (by show (i : Int) ≤ 18446744073709551615; omega)
    have hh : ∀ σ, env10.ov 23 [.int .u64 (u x), .int .i64 i] 0 σ = some (.bool (x.getLsbD i), σ) := fun σ => by
      rw [ov10_23, hasS_u x _ (by omega) (by omega), Int.toNat_natCast]
    rw [wioV_u _ i hi, bitS_u _ (by omega) (by omega), andNotS_u, Int.toNat_natCast]
    cases hb : x.getLsbD i with
    | true =>
      rw [hb] at hh
      have ev : subS (u x) (bitW i) = u (x &&& ~~~ (1#64 <<< i)) := by
        unfold bitW
        rw [ew, bitS_u _ (by omega) (by omega), subS_u, Int.toNat_natCast, sub_bit x i hi hb]
      rw [← ev]
      exact pureT t10_ok fns10 (n := 100) (v := .tuple #[.int .u64 (subS (u x) (bitW i)), .int .i64 0]) [(6, .br true), (2, .br true), (6, .ov (.bool true)), (4, .ok)]
        [decide ((i : Int) ≥ 0) = true, decide ((i : Int) < 64) = true, _, 0 ≤ IntKind.u64.wrap (i : Int)] (by kernel_rfl) ⟨h, g, hh, by rw [ew]; exact h0⟩ rfl (PF_pair (.int _ _) (.int _ _))
    | false =>
      rw [hb] at hh
      rw [no_bit x i hi hb]
      exact pureT t10_ok fns10 (n := 100) (v := .tuple #[.int .u64 (u x), .int .i64 0]) [(6, .br true), (2, .br true), (6, .ov (.bool false))]
        [decide ((i : Int) ≥ 0) = true, decide ((i : Int) < 64) = true, _] (by kernel_rfl) ⟨h, g, hh⟩ rfl (PF_pair (.int _ _) (.int _ _))

end Go.Proofs.YtakchekhpeokjaaDoor
