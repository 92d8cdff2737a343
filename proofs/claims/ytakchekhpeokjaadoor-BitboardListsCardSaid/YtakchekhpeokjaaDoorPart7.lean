/-
  The functions that the statement reaches: what they answer, part 7.
-/
import Derived.Test.YtakchekhpeokjaaDoorPart6
import Derived.Test.YtakchekhpeokjaaDoorVap4
import Derived.Test.YtakchekhpeokjaaDoorPart3

/-
  BITBOARD (chapter 05): what the Builder's Write and String do, on an open heap.
-/
namespace Go.Proofs.YtakchekhpeokjaaDoor
open Go.Va

def k56 : List Value → Option Value
  | [.string s, .int .i64 n] => bif veq1 (.string s) (.string ⟨#[46]⟩) && decide (n = 8) then some dots else none
  | _ => none
theorem p56 : KOk Tryd.prog 4 tabs 56 k56 := by
  intro args v h
  unfold k56 at h
  split at h
  · rename_i s n
    exact pf1_pure 56 [.string s, .int .i64 n] v rfl h
  · cases h
noncomputable def t12 : Ktab := (56, k56) :: t11
theorem t12_ok : TOk Tryd.prog 4 tabs t12 := ⟨p56, t11_ok⟩
noncomputable def env12 : Env := envT t12
set_option maxRecDepth 100000 in
theorem fns12 : fnB Tryd.prog 4 env12 okL = true := by kernel_rfl

def Pb (b : Nat) : Value := .pointer (some ⟨b, 0, none⟩)
def Sl (z n : Nat) : Value := .slice (some ⟨z, 0, none⟩) n n
/-- The Builder's object. -/
def Bo (a v : Value) : AObj := .cells [a, v] true (none, some 72) none
def W1 (σ : AS) (b : Nat) (c : List Value) : AS := ((σ.put b (some (Bo (Pb b) (.slice none 0 0)))).push (.cells c true (some 1, some 5) none)).put b (some (Bo (Pb b) (Sl σ.next 9)))
/-- 'σ1': the heap without the row before the last one. -/
def W2 (σ σ1 : AS) (b r m : Nat) (d c : List Value) : AS := ((σ1.put r (some (.cells d false (some 1, some 5) none))).push (.cells (d ++ c) true (some 1, some 5) (some r))).put b (some (Bo (Pb b) (Sl σ.next (m + 9))))

theorem conv1 {b : Nat} {σ : AS} (h : σ.get b = some (Bo (.pointer none) (.slice none 0 0))) : ptrConv Tryd.prog 70 93 ⟨b, 0, none⟩ σ = some (Pb b, σ) ∧ ptrConv Tryd.prog 93 70 ⟨b, 0, none⟩ σ = some (Pb b, σ) := by
  have e1 : ptrOk Tryd.prog 70 93 0 (Bo (.pointer none) (.slice none 0 0)) = true := by kernel_rfl
  have e2 : ptrOk Tryd.prog 93 70 0 (Bo (.pointer none) (.slice none 0 0)) = true := by kernel_rfl
  unfold ptrConv
  dsimp only
  rw [h]
  dsimp only
  rw [e1, e2]
  exact ⟨rfl, rfl⟩
theorem i5 : ∃ i, Tryd.prog.info? 5 = some i ∧ i.size = 1 ∧ i.zero.isSome = true ∧ i.bytes = 1 := by
  refine ⟨_, rfl, ?_, ?_, ?_⟩ <;> kernel_rfl

theorem write_first (b z : Nat) (c : List Value) (lo : Lo) (σ : AS) (hb : σ.get b = some (Bo (.pointer none) (.slice none 0 0))) (hz : σ.get z = some (.cells c true lo none)) (hc : c.length = 9) (hone : c.all oneCell = true) (hbn : b < σ.next) (hzb : z ≠ b) :
    runW Tryd.prog env12 0 (.call 57 [Pb b, Sl z 9]) σ = some (.val (.tuple #[.int .i64 9, .nilIface]), W1 σ b c) := by
  obtain ⟨i, hi, h1, h2, h3⟩ := i5
  have hb1 : (σ.put b (some (Bo (Pb b) (.slice none 0 0)))).get b = some (Bo (Pb b) (.slice none 0 0)) := get_put_eq rfl
  have hz1 : (σ.put b (some (Bo (Pb b) (.slice none 0 0)))).get z = some (.cells c true lo none) := by rw [get_put_ne hzb, hz]
  have hb2 : ((σ.put b (some (Bo (Pb b) (.slice none 0 0)))).push (.cells c true (some 1, some 5) none)).get b = some (Bo (Pb b) (.slice none 0 0)) := by
    rw [get_push_ne (by rw [next_put]; omega), hb1]
  exact runW_of_whole (n := 100) (hs := [(7, .is (.pointer none)), (4, .sem (Pb b) σ), (1, .sem (Pb b) σ), (2, .sem undef (σ.put b (some (Bo (Pb b) (.slice none 0 0))))), (4, .is (.slice none 0 0)),
      (1, .sem (Sl σ.next 9) ((σ.put b (some (Bo (Pb b) (.slice none 0 0)))).push (.cells c true (some 1, some 5) none))), (2, .sem undef (W1 σ b c))])
    (ob := [σ.cell? ⟨b, 0, none⟩ = some (.pointer none), ptrConv Tryd.prog 70 93 ⟨b, 0, none⟩ σ = some (Pb b, σ), ptrConv Tryd.prog 93 70 ⟨b, 0, none⟩ σ = some (Pb b, σ),
      σ.setCells 0 ⟨b, 0, none⟩ [Pb b] 0 = some (σ.put b (some (Bo (Pb b) (.slice none 0 0)))), (σ.put b (some (Bo (Pb b) (.slice none 0 0)))).cell? ⟨b, 1, none⟩ = some (.slice none 0 0),
      appA Tryd.prog true 0 #[60, 60] [.slice none 0 0, Sl z 9] (σ.put b (some (Bo (Pb b) (.slice none 0 0)))) = some (Sl σ.next 9, (σ.put b (some (Bo (Pb b) (.slice none 0 0)))).push (.cells c true (some 1, some 5) none)),
      ((σ.put b (some (Bo (Pb b) (.slice none 0 0)))).push (.cells c true (some 1, some 5) none)).setCells 0 ⟨b, 1, none⟩ [Sl σ.next 9] 0 = some (W1 σ b c)]) (by kernel_rfl)
    ⟨cell_of hb rfl, (conv1 hb).1, (conv1 hb).2, setCells1 hb (by omega) (by decide) rfl, cell_of hb1 rfl,
      append_nil Tryd.underlying60 Tryd.underlying60 hi h1 h2 hz1 hc (by omega) (by omega) (by omega) hone, setCells1 hb2 (by omega) (by decide : 1 < 2) rfl⟩

theorem neq_same {P : Program} {T el : TypeId} (hT : P.underlying T = some (.pointer el)) {i : TypeInfo} (hi : P.info? el = some i) (hs : i.size ≠ 0) (a : Addr) (lim : Nat) (σ : AS) :
    runA P lim (binOp .neq T (.pointer (some a)) (.pointer (some a))) σ = some (.bool false, σ) := by
  have h1 : runA P lim (Op.equal T (.pointer (some a)) (.pointer (some a))) σ = some (true, σ) := by
    unfold Op.equal
    rw [show Op.maxDepth = 9999 + 1 from rfl]
    unfold Op.equalIn
    rw [runA_bind, runA_underlying, hT]
    dsimp only [Option.map]
    rw [runA_bind, runA_sizeOf', hi]
    dsimp only [Option.map]
    rw [if_pos hs]
    unfold sameAddr
    rw [if_pos (beq_self_eq_true _)]
    show some (a == a, σ) = _
    rw [beq_self_eq_true]
  show runA P lim (Op.equal T (.pointer (some a)) (.pointer (some a)) >>= fun b => Pure.pure (Value.bool (!b))) σ = _
  rw [runA_bind, h1]
  rfl

theorem write_next (b z r m : Nat) (c d : List Value) (lo : Lo) (qv : Option Nat) (σ σ1 : AS) (hb : σ.get b = some (Bo (Pb b) (Sl r m))) (hz : σ.get z = some (.cells c true lo none)) (hc : c.length = 9) (hone : c.all oneCell = true)
    (hr : σ.get r = some (.cells d true (some 1, some 5) qv)) (hd : d.length = m) (hm : m < 1000) (hk : σ.kill 0 qv = some σ1) (hb1 : σ1.get b = some (Bo (Pb b) (Sl r m))) (hn1 : σ1.next = σ.next) (hbn : b < σ.next) (hrb : r ≠ b) :
    runW Tryd.prog env12 0 (.call 57 [Pb b, Sl z 9]) σ = some (.val (.tuple #[.int .i64 9, .nilIface]), W2 σ σ1 b r m d c) := by
  obtain ⟨i, hi, h1, h2, h3⟩ := i5
  obtain ⟨i72, hi72, hs72⟩ : ∃ i, Tryd.prog.info? 72 = some i ∧ i.size = 2 := ⟨_, rfl, by kernel_rfl⟩
  have hb2 : ((σ1.put r (some (.cells d false (some 1, some 5) none))).push (.cells (d ++ c) true (some 1, some 5) (some r))).get b = some (Bo (Pb b) (Sl r m)) := by
    rw [get_push_ne (by rw [next_put, hn1]; omega), get_put_ne (fun h => hrb h.symm), hb1]
  exact runW_of_whole (n := 100) (hs := [(7, .is (Pb b)), (5, .is (Pb b)), (1, .sem (.bool false) σ), (5, .is (Sl r m)),
      (1, .sem (Sl σ.next (m + 9)) ((σ1.put r (some (.cells d false (some 1, some 5) none))).push (.cells (d ++ c) true (some 1, some 5) (some r)))), (2, .sem undef (W2 σ σ1 b r m d c))])
    (ob := [σ.cell? ⟨b, 0, none⟩ = some (Pb b), σ.cell? ⟨b, 0, none⟩ = some (Pb b), runA Tryd.prog 0 (binOp .neq 70 (Pb b) (Pb b)) σ = some (.bool false, σ), σ.cell? ⟨b, 1, none⟩ = some (Sl r m),
      appA Tryd.prog true 0 #[60, 60] [Sl r m, Sl z 9] σ = some (Sl σ.next (m + 9), (σ1.put r (some (.cells d false (some 1, some 5) none))).push (.cells (d ++ c) true (some 1, some 5) (some r))),
      ((σ1.put r (some (.cells d false (some 1, some 5) none))).push (.cells (d ++ c) true (some 1, some 5) (some r))).setCells 0 ⟨b, 1, none⟩ [Sl σ.next (m + 9)] 0 = some (W2 σ σ1 b r m d c)]) (by kernel_rfl)
    ⟨cell_of hb rfl, cell_of hb rfl, neq_same Tryd.underlying70 hi72 (by omega) _ _ _, cell_of hb rfl,
      append_row Tryd.underlying60 Tryd.underlying60 hi h1 h2 hz hc (by omega) (by omega) (by rw [h3]; omega) hone hr hd (by omega) hk, setCells1 hb2 (by omega) (by decide : 1 < 2) rfl⟩

theorem string_of (b r : Nat) (d : List Value) (s : List UInt8) (qv : Option Nat) (σ σ1 : AS) (hb : σ.get b = some (Bo (Pb b) (Sl r 72))) (hr : σ.get r = some (.cells d true (some 1, some 5) qv)) (hd : d.length = 72) (hs : bytesOf d = some s) (hk : σ.kill 0 qv = some σ1) :
    runW Tryd.prog env12 0 (.call 58 [Pb b]) σ = some (.val (.string ⟨s.toArray⟩), σ1.put r (some (.cells d false (some 1, some 5) none))) :=
  runW_of_whole (n := 100) (hs := [(4, .is (Sl r 72)), (4, .is (Sl r 72)), (1, .sem (.string ⟨s.toArray⟩) (σ1.put r (some (.cells d false (some 1, some 5) none))))])
    (ob := [σ.cell? ⟨b, 1, none⟩ = some (Sl r 72), σ.cell? ⟨b, 1, none⟩ = some (Sl r 72), ustrA Tryd.prog 0 #[85, 3] [Pb r, .int .i64 72] σ = some (.string ⟨s.toArray⟩, σ1.put r (some (.cells d false (some 1, some 5) none)))]) (by kernel_rfl)
    ⟨cell_of hb rfl, cell_of hb rfl, ustr_row Tryd.underlying85 (by kernel_rfl) hr hd (by omega) (by omega) (by omega) hs hk⟩
end Go.Proofs.YtakchekhpeokjaaDoor

/-
  BITBOARD (chapter 05): Text: one line is painted, on an open heap.
-/
namespace Go.Proofs.YtakchekhpeokjaaDoor
open Go.Va

noncomputable def rng32 : Code := codeOf Tryd.prog 32 [.r, .r, .l, .r, .b, .b, .r, .l, .b, .r, .l, .r, .b]
noncomputable def asg32 : Code := match rng32 with
  | .rangeFunc _ _ a _ => a
  | _ => .skip
noncomputable def bod32 : Code := match rng32 with
  | .rangeFunc _ _ _ b => b
  | _ => .skip
theorem rng32_eq : rng32 = .rangeFunc (.tmp 19) #[20] asg32 bod32 := by kernel_rfl
def F51c (k : Nat) : Value := .func (.func 51) #[] #[Pb k]
def T32r (q k : Nat) (w : Nat → Value) : List Value := fillT 27 [(5, Pb q), (19, F51c k)] w
noncomputable def lpL (t : List Value) (d : Nat) : Go.Loop := { state := .ready, pending := none, fn := 32, tmps := t.toArray, params := #[20], assign := asg32, body := bod32, defers := d }

theorem asg32_run (l q k : Nat) (n : Int) (w : Nat → Value) (σ : AS) :
    ∃ w', runW Tryd.prog env12 0 (.code ⟨32, some l⟩ asg32 (fillT 27 [(20, .int .i64 n), (5, Pb q), (19, F51c k)] w) []) σ = some (.done .normal (fillT 27 [(5, Pb q), (6, .int .i64 n)] w') [], σ) :=
  seg 100 [] (m := 27) (js := [5, 6]) (vs := [Pb q, .int .i64 n]) (ob := []) (by kernel_rfl) trivial
def dotted (c : List Value) (n : Nat) : List Value := c.set n (.int .u8 120)
theorem bod32_run (l q z n : Nat) (c : List Value) (lo : Lo) (w : Nat → Value) (σ : AS) (hq : σ.get q = some (.cells [Sl z 9] true (none, some 60) none)) (hz : σ.get z = some (.cells c true lo none)) (hc : c.length = 9) (hn : n < 9) :
    ∃ w', runW Tryd.prog env12 0 (.code ⟨32, some l⟩ bod32 (fillT 27 [(5, Pb q), (6, .int .i64 n)] w) []) σ = some (.done .normal (fillT 27 [(5, Pb q)] w') [], σ.put z (some (.cells (dotted c n) true lo none))) :=
  seg 100 [(0, .is (Sl z 9)), (1, .ok), (0, .sem undef (σ.put z (some (.cells (dotted c n) true lo none))))] (m := 27) (js := [5]) (vs := [Pb q])
    (ob := [σ.cell? ⟨q, 0, none⟩ = some (Sl z 9), (0 : Int) ≤ n ∧ (n : Int) < (9 : Nat), σ.setCells 0 ⟨z, 0 + (n : Int).toNat * 1, none⟩ [.int .u8 120] 0 = some (σ.put z (some (.cells (dotted c n) true lo none)))]) (by kernel_rfl)
    ⟨cell_of hq rfl, ⟨by omega, by omega⟩, by
      rw [show 0 + (n : Int).toNat * 1 = n by omega]
      exact setCells1 hz (by omega) (by omega) rfl⟩

structure P32 (σ : AS) (l q z : Nat) (t : List Value) (d : Nat) (c : List Value) (lo : Lo) : Prop where
  hl : σ.get l = some (.obj (.loop (lpL t d)))
  hq : σ.get q = some (.cells [Sl z 9] true (none, some 60) none)
  hz : σ.get z = some (.cells c true lo none)
  hc : c.length = 9
/-- Nothing else is written. -/
def Same2 (σ σ' : AS) (l z : Nat) : Prop := σ'.next = σ.next ∧ ∀ j, j ≠ l → j ≠ z → σ'.get j = σ.get j

set_option maxRecDepth 100000 in
theorem args32 (q k : Nat) (v : Value) (w : Nat → Value) :
    ((((#[20] : Array Tmp).zip [v].toArray).foldl (fun tmps (x : Tmp × Value) => tmps.setIfInBounds x.1 x.2) (T32r q k w).toArray).toList) = fillT 27 [(20, v), (5, Pb q), (19, F51c k)] w := by kernel_rfl

theorem yld32 {l q z k d n : Nat} {c : List Value} {lo : Lo} {w : Nat → Value} {σ : AS} (h : P32 σ l q z (T32r q k w) d c lo) (hn : n < 9) (hql : q ≠ l) (hzl : z ≠ l) (hqz : q ≠ z) :
    ∃ σ', applyA Tryd.prog env12 (runW Tryd.prog env12) 0 (.func (.yield l) #[] #[]) [.int .i64 n] σ = some (.bool true, σ') ∧ P32 σ' l q z (T32r q k w) d (dotted c n) lo ∧ Same2 σ σ' l z := by
  obtain ⟨w1, h1⟩ := asg32_run l q k n w σ
  let σ1 := σ.put l (some (.obj (.loop { lpL (T32r q k w) d with state := .busy })))
  have hq1 : σ1.get q = some (.cells [Sl z 9] true (none, some 60) none) := by rw [get_put_ne hql, h.hq]
  have hz1 : σ1.get z = some (.cells c true lo none) := by rw [get_put_ne hzl, h.hz]
  obtain ⟨w2, h2⟩ := bod32_run l q z n c lo w1 σ1 hq1 hz1 h.hc hn
  let σ3 := σ1.put z (some (.cells (dotted c n) true lo none))
  have hl3 : σ3.get l = some (.obj (.loop { lpL (T32r q k w) d with state := .busy })) := by
    rw [get_put_ne (fun e => hzl e.symm), get_put_eq rfl]
  have hr := round_of (lim := 0) h1 h.hl rfl (by omega) h2 hl3
  refine ⟨σ3.put l (some (.obj (.loop (lpL (T32r q k w) d)))), ?_, ⟨?_, ?_, ?_, ?_⟩, rfl, ?_⟩
  · refine yield_of h.hl rfl ?_
    have e := args32 q k (.int .i64 n) w
    show runW Tryd.prog env12 0 (.round l 32 ((((#[20] : Array Tmp).zip [Value.int .i64 n].toArray).foldl (fun tmps (x : Tmp × Value) => tmps.setIfInBounds x.1 x.2) (T32r q k w).toArray).toList) asg32 bod32) σ = _
    rw [e]
    exact hr
  · exact get_put_eq rfl
  · rw [get_put_ne hql, get_put_ne hqz, hq1]
  · rw [get_put_ne hzl, get_put_eq rfl]
  · unfold dotted; rw [List.length_set]; exact h.hc
  · intro j hj hz'
    rw [get_put_ne hj, get_put_ne hz', get_put_ne hj]

def T51o (l k : Nat) (r : Int) (w : Nat → Value) : List Value := fillT 16 [(0, .func (.yield l) #[] #[]), (1, Pb k), (3, .int .u64 r)] w
theorem ov12_52 (x : BitVec 64) (lim : Nat) (σ : AS) : env12.ov 52 [.int .u64 (u x)] lim σ = some (.int .i64 (tz x), σ) :=
  envK rfl rfl rfl rfl (by unfold t12 t11 t10 t9 t8 t6; iterate 20 rw [pfT_ne rfl]
                           rw [pfT_eq]; exact k52_u x)
theorem next51o (l k : Nat) (r n : Int) (σ σ' : AS) (w : Nat → Value) (h1 : (r != 0) = true) (h2 : ∀ σ, env12.ov 52 [.int .u64 r] 0 σ = some (.int .i64 n, σ))
    (h3 : applyA Tryd.prog env12 (runW Tryd.prog env12) 0 (.func (.yield l) #[] #[]) [.int .i64 n] σ = some (.bool true, σ')) :
    ∃ w', runW Tryd.prog env12 0 (.code ⟨51, none⟩ body51 (T51o l k r w) []) σ = some (.done .normal (T51o l k (andS r (subS r 1)) w') [], σ') :=
  seg 100 [(1, .br true), (3, .ov (.int .i64 n)), (0, .sem (.bool true) σ')] (m := 16) (js := [0, 1, 3]) (vs := [.func (.yield l) #[] #[], Pb k, .int .u64 (andS r (subS r 1))])
    (ob := [(r != 0) = true, (∀ σ, env12.ov 52 [.int .u64 r] 0 σ = some (.int .i64 n, σ)), applyA Tryd.prog env12 (runW Tryd.prog env12) 0 (.func (.yield l) #[] #[]) [.int .i64 n] σ = some (.bool true, σ')]) (by kernel_rfl) ⟨h1, h2, h3⟩
theorem end51o (l k : Nat) (σ : AS) (w : Nat → Value) :
    ∃ w', runW Tryd.prog env12 0 (.code ⟨51, none⟩ body51 (T51o l k 0 w) []) σ = some (.done (.exit 0) (T51o l k 0 w') [], σ) :=
  seg 100 [] (m := 16) (js := [0, 1, 3]) (vs := [.func (.yield l) #[] #[], Pb k, .int .u64 0]) (ob := []) (by kernel_rfl) trivial

def paint (c : List Value) (l : List Nat) : List Value := l.foldl dotted c
theorem paint_len : ∀ (l : List Nat) (c : List Value), (paint c l).length = c.length
  | [], _ => rfl
  | n :: l, c => by
    show (paint (dotted c n) l).length = _
    rw [paint_len l]; unfold dotted; rw [List.length_set]

theorem loop51o {l q z kk d : Nat} {lo : Lo} {w0 : Nat → Value} (hql : q ≠ l) (hzl : z ≠ l) (hqz : q ≠ z) : ∀ (k : Nat) (x : BitVec 64) (c : List Value) (σ : AS) (w : Nat → Value), (bitsL x).length = k → (∀ n ∈ bitsL x, n < 9) → P32 σ l q z (T32r q kk w0) d c lo →
    ∃ w' σ', runW Tryd.prog env12 0 (.code ⟨51, none⟩ (.loop body51) (T51o l kk (u x) w) []) σ = some (.done (.exit 0) (T51o l kk 0 w') [], σ') ∧ P32 σ' l q z (T32r q kk w0) d (paint c (bitsL x)) lo ∧ Same2 σ σ' l z := by
  intro k
  induction k with
  | zero =>
    intro x c σ w h1 h2 hP
    have e := List.eq_nil_of_length_eq_zero h1
    rw [e, bits_ne e]
    obtain ⟨w', h⟩ := end51o l kk σ w
    exact ⟨w', σ, loop_out (by intro h; cases h) h, hP, rfl, fun _ _ _ => rfl⟩
  | succ k ih =>
    intro x c σ w h1 h2 hP
    have hx : x ≠ 0#64 := by
      intro e; rw [e, bits_zero] at h1; cases h1
    have hb := bits_cons hx
    rw [hb] at h1 h2 ⊢
    obtain ⟨σ1, hy, hP1, hs1⟩ := yld32 hP (h2 _ (List.mem_cons_self ..)) hql hzl hqz
    obtain ⟨w1, h⟩ := next51o l kk (u x) (tz x) σ σ1 w (u_ne hx) (fun σ => ov12_52 x 0 σ) hy
    rw [rest_u] at h
    obtain ⟨w', σ', h', hP', hs'⟩ := ih (restB x) (dotted c (tz x)) σ1 w1 (by simpa using h1) (fun n hn => h2 n (List.mem_cons_of_mem _ hn)) hP1
    exact ⟨w', σ', loop_next h h', hP', hs'.1.trans hs1.1, fun j h3 h4 => (hs'.2 j h3 h4).trans (hs1.2 j h3 h4)⟩

theorem call51o (l k : Nat) (x : Int) (lo : Lo) (rw : Bool) (pv : Option Nat) (w' : Nat → Value) (σ σ' : AS) (hk : σ.get k = some (.cells [.int .u64 x] rw lo pv))
    (h : runW Tryd.prog env12 0 (.code ⟨51, none⟩ (.loop body51) (T51o l k x (fun j => Go.Va.look [(4, Value.int .u64 x)] j undef)) []) σ = some (.done (.exit 0) (T51o l k 0 w') [], σ')) :
    runW Tryd.prog env12 0 (.call 51 [.func (.yield l) #[] #[], Pb k]) σ = some (.val (.tuple #[]), σ') :=
  runW_of_whole (n := 100) (hs := [(0, .is (.int .u64 x)), (1, .skip (.done (.exit 0) (T51o l k 0 w') []) σ')])
    (ob := [σ.cell? ⟨k, 0, none⟩ = some (.int .u64 x), runW Tryd.prog env12 0 (.code ⟨51, none⟩ (.loop body51) (T51o l k x (fun j => Go.Va.look [(4, Value.int .u64 x)] j undef)) []) σ = some (.done (.exit 0) (T51o l k 0 w') [], σ')]) (by kernel_rfl)
    ⟨cell_of hk rfl, h⟩

/-- The line z is painted. -/
theorem rng32_run {q z k : Nat} {c : List Value} {lo lo1 : Lo} {w : Nat → Value} {ds : List Nat} {σ : AS} {x : BitVec 64} (hq : σ.get q = some (.cells [Sl z 9] true (none, some 60) none)) (hz : σ.get z = some (.cells c true lo none)) (hc : c.length = 9)
    (hk : σ.get k = some (.cells [.int .u64 (u x)] true lo1 none)) (hx : ∀ n ∈ bitsL x, n < 9) (hqn : q < σ.next) (hzn : z < σ.next) (hkn : k < σ.next) (hqz : q ≠ z) :
    ∃ σ', runW Tryd.prog env12 0 (.code ⟨32, none⟩ rng32 (T32r q k w) ds) σ = some (.done .normal (T32r q k w) (σ.next :: ds), σ') ∧ σ'.get z = some (.cells (paint c (bitsL x)) true lo none) ∧ σ'.next = σ.next + 2 ∧
      (∀ j, j < σ.next → j ≠ z → σ'.get j = σ.get j) ∧ σ'.get σ.next = some (.obj (.deferred (some []))) := by
  let σ1 := (σ.push (.obj (.deferred (some [])))).push (.obj (.loop (lpL (T32r q k w) σ.next)))
  have hn1 : (σ.push (.obj (.deferred (some [])))).next = σ.next + 1 := rfl
  have hold : ∀ j, j < σ.next → σ1.get j = σ.get j := fun j hj => by
    rw [get_push_ne (by rw [hn1]; omega), get_push_ne (by omega)]
  have hP : P32 σ1 (σ.next + 1) q z (T32r q k w) σ.next c lo := ⟨get_push_eq rfl, by rw [hold q hqn, hq], by rw [hold z hzn, hz], hc⟩
  obtain ⟨w', σ2, h, hP2, hs⟩ := loop51o (by omega) (by omega) hqz (bitsL x).length x c σ1 (fun j => Go.Va.look [(4, Value.int .u64 (u x))] j undef) rfl hx hP
  have hcall := call51o (σ.next + 1) k (u x) lo1 true none w' σ1 σ2 (by rw [hold k hkn, hk]) h
  refine ⟨σ2.put (σ.next + 1) (some (.obj (.loop { lpL (T32r q k w) σ.next with state := .exhausted }))), ?_, ?_, ?_, ?_, ?_⟩
  · rw [rng32_eq]
    exact range_of (cap := #[Pb k]) (by kernel_rfl) rfl hcall hP2.hl rfl rfl (by omega)
  · rw [get_put_ne (by omega), hP2.hz]
  · rw [next_put, hs.1]; rfl
  · intro j hj hjz
    rw [get_put_ne (by omega), hs.2 j (by omega) hjz, hold j hj]
  · rw [get_put_ne (by omega), hs.2 _ (by omega) (by omega), get_push_ne (by rw [hn1]; omega), get_push_eq rfl]
end Go.Proofs.YtakchekhpeokjaaDoor

/-
  BITBOARD (chapter 05): Text: its rounds, on an open heap.
-/
namespace Go.Proofs.YtakchekhpeokjaaDoor
open Go.Va

def bys (l : List UInt8) : List Value := l.map fun b => .int .u8 b.toNat
def line0 : List Value := bys [46, 46, 46, 46, 46, 46, 46, 46, 10]
noncomputable def body32 : Code := codeOf Tryd.prog 32 [.r, .r, .l, .r, .b, .b]
def T32 (x : Int) (b : Nat) (r : Int) (w : Nat → Value) : List Value := fillT 27 [(0, .int .u64 x), (3, Pb b), (4, .int .i64 r)] w
def lin (σ : AS) : AS := (σ.push (.cells line0 true (some 1, some 5) none)).push (.cells [.slice none 0 0] true (none, some 60) none)
def linA (σ : AS) : AS := (lin σ).put (σ.next + 1) (some (.cells [Sl σ.next 9] true (none, some 60) none))
def linB (σ : AS) (y : Int) : AS := (linA σ).push (.cells [.int .u64 y] true (none, some 23) none)
def w32 (x r : Int) (y : Int) (b : Nat) (σ : AS) (w : Nat → Value) : Nat → Value := fun j => Go.Va.look [(0, .int .u64 x), (3, Pb b), (4, .int .i64 r), (7, .int .i64 r), (8, .bool true), (11, dots), (12, .string ⟨#[46, 46, 46, 46, 46, 46, 46, 46, 10]⟩), (13, Sl σ.next 9),
  (14, .int .u64 x), (15, .int .i64 r), (16, .int .i64 (IntKind.i64.wrap (8 * r))), (17, .int .u64 (shrS x (IntKind.i64.wrap (8 * r)))), (18, .int .u64 y)] j (w j)

theorem turn32 (x r y : Int) (b : Nat) (σ σC σD : AS) (w : Nat → Value) (ds : List Nat) (h1 : decide (r ≥ 0) = true) (h2 : 0 ≤ IntKind.i64.wrap (8 * r)) (h3 : andS (shrS x (IntKind.i64.wrap (8 * r))) 255 = y)
    (hA : (lin σ).setCells 0 ⟨σ.next + 1, 0, none⟩ [Sl σ.next 9] 0 = some (linA σ))
    (hC : runW Tryd.prog env12 0 (.code ⟨32, none⟩ rng32 (T32r (σ.next + 1) (σ.next + 2) (w32 x r y b σ w)) ds) (linB σ y) = some (.done .normal (T32r (σ.next + 1) (σ.next + 2) (w32 x r y b σ w)) ((linB σ y).next :: ds), σC))
    (hL : σC.cell? ⟨σ.next + 1, 0, none⟩ = some (Sl σ.next 9))
    (hD : applyA Tryd.prog env12 (runW Tryd.prog env12) 0 (.func (.func 57) #[] #[]) [Pb b, Sl σ.next 9] σC = some (.tuple #[.int .i64 9, .nilIface], σD)) :
    ∃ w', runW Tryd.prog env12 0 (.code ⟨32, none⟩ body32 (T32 x b r w) ds) σ = some (.done .normal (T32 x b (IntKind.i64.wrap (r - 1)) w') ((linB σ y).next :: ds), σD) :=
  seg 100 [(1, .br true), (5, .sem undef (linA σ)), (3, .ok), (0, .eq (.int .u64 y)), (5, .skip (.done .normal (T32r (σ.next + 1) (σ.next + 2) (w32 x r y b σ w)) ((linB σ y).next :: ds)) σC), (0, .is (Sl σ.next 9)), (0, .sem (.tuple #[.int .i64 9, .nilIface]) σD)]
    (m := 27) (js := [0, 3, 4]) (vs := [.int .u64 x, Pb b, .int .i64 (IntKind.i64.wrap (r - 1))])
    (ob := [decide (r ≥ 0) = true, (lin σ).setCells 0 ⟨σ.next + 1, 0, none⟩ [Sl σ.next 9] 0 = some (linA σ), 0 ≤ IntKind.i64.wrap (8 * r), Value.int .u64 (andS (shrS x (IntKind.i64.wrap (8 * r))) 255) = .int .u64 y,
      runW Tryd.prog env12 0 (.code ⟨32, none⟩ rng32 (T32r (σ.next + 1) (σ.next + 2) (w32 x r y b σ w)) ds) (linB σ y) = some (.done .normal (T32r (σ.next + 1) (σ.next + 2) (w32 x r y b σ w)) ((linB σ y).next :: ds), σC),
      σC.cell? ⟨σ.next + 1, 0, none⟩ = some (Sl σ.next 9), applyA Tryd.prog env12 (runW Tryd.prog env12) 0 (.func (.func 57) #[] #[]) [Pb b, Sl σ.next 9] σC = some (.tuple #[.int .i64 9, .nilIface], σD)]) (by kernel_rfl)
    ⟨h1, hA, h2, congrArg _ h3, hC, hL, hD⟩
theorem end32 (x r : Int) (b : Nat) (σ : AS) (w : Nat → Value) (ds : List Nat) (h1 : decide (r ≥ 0) = false) :
    ∃ w', runW Tryd.prog env12 0 (.code ⟨32, none⟩ body32 (T32 x b r w) ds) σ = some (.done (.exit 0) (T32 x b r w') ds, σ) :=
  seg 100 [(1, .br false)] (m := 27) (js := [0, 3, 4]) (vs := [.int .u64 x, Pb b, .int .i64 r]) (ob := [decide (r ≥ 0) = false]) (by kernel_rfl) h1
end Go.Proofs.YtakchekhpeokjaaDoor

/-
  BITBOARD (chapter 05): Text, as a function of plain values.
-/
namespace Go.Proofs.YtakchekhpeokjaaDoor
open Go.Va

/-- The Builder at b holds s. -/
inductive Bd (σ : AS) (b : Nat) : List Value → Prop where
  | nil : σ.get b = some (Bo (.pointer none) (.slice none 0 0)) → Bd σ b []
  | cons (r : Nat) (qv : Option Nat) (s : List Value) : σ.get b = some (Bo (Pb b) (Sl r s.length)) → σ.get r = some (.cells s true (some 1, some 5) qv) → r ≠ b → r < σ.next →
      (∀ q, qv = some q → q ≠ b ∧ q ≠ r ∧ q < σ.next ∧ ∃ c, σ.get q = some (.cells c false (some 1, some 5) none)) → Bd σ b s
theorem Bd.mono {σ σ' : AS} {b : Nat} {s : List Value} (h : Bd σ b s) (hb : b < σ.next) (hn : σ.next ≤ σ'.next) (hs : ∀ j, j < σ.next → σ'.get j = σ.get j) : Bd σ' b s := by
  cases h with
  | nil h => exact .nil (by rw [hs b hb, h])
  | cons r qv _ h1 h2 h3 h4 h5 =>
    refine .cons r qv s (by rw [hs b hb, h1]) (by rw [hs r h4, h2]) h3 (by omega) fun q hq => ?_
    obtain ⟨h6, h7, h8, c, h9⟩ := h5 q hq
    exact ⟨h6, h7, by omega, c, by rw [hs q h8, h9]⟩
def Dd : AObj := .obj (.deferred (some []))
structure DS (σ : AS) (ds : List Nat) : Prop where
  nd : ds.Nodup
  h : ∀ d ∈ ds, d < σ.next ∧ σ.get d = some Dd
theorem ne_of_get {σ : AS} {a b : Nat} {x y : AObj} (h1 : σ.get a = some x) (h2 : σ.get b = some y) (h : x ≠ y) : a ≠ b := by
  intro e
  rw [e, h2] at h1
  cases h1
  exact h rfl

theorem write_o {σ : AS} {b z : Nat} {s c : List Value} {lo : Lo} {ds : List Nat} (hB : Bd σ b s) (hb : b < σ.next) (hD : DS σ ds) (hz : σ.get z = some (.cells c true lo none)) (hc : c.length = 9) (hone : c.all oneCell = true) (hzb : z ≠ b) (hs : s.length < 1000) :
    ∃ σ', applyA Tryd.prog env12 (runW Tryd.prog env12) 0 (.func (.func 57) #[] #[]) [Pb b, Sl z 9] σ = some (.tuple #[.int .i64 9, .nilIface], σ') ∧ Bd σ' b (s ++ c) ∧ σ.next ≤ σ'.next ∧ DS σ' ds := by
  cases hB with
  | nil h =>
    refine ⟨W1 σ b c, app_of rfl (write_first b z c lo σ h hz hc hone hb hzb), ?_, ?_, ⟨hD.nd, fun d hd => ?_⟩⟩
    · refine .cons σ.next none _ ?_ ?_ (by omega) ?_ fun q hq => by cases hq
      · unfold W1; rw [get_put_eq rfl, List.nil_append, hc]
      · unfold W1; rw [get_put_ne (by omega), get_push_eq (by rw [next_put]), List.nil_append]
      · show σ.next < σ.next + 1; omega
    · show σ.next ≤ σ.next + 1; omega
    · obtain ⟨h1, h2⟩ := hD.h d hd
      have hdb : d ≠ b := ne_of_get h2 h (by intro e; cases e)
      refine ⟨show d < σ.next + 1 by omega, ?_⟩
      unfold W1
      rw [get_put_ne hdb, get_push_ne (by rw [next_put]; omega), get_put_ne hdb, h2]
  | cons r qv _ h1 h2 h3 h4 h5 =>
    have hk : ∃ σ1, σ.kill 0 qv = some σ1 ∧ σ1.next = σ.next ∧ σ1.get b = σ.get b ∧ ∀ d, σ.get d = some Dd → σ1.get d = some Dd := by
      cases qv with
      | none => exact ⟨σ, rfl, rfl, rfl, fun _ h => h⟩
      | some q =>
        obtain ⟨h6, h7, h8, c', h9⟩ := h5 q rfl
        exact ⟨σ.put q none, rfl, rfl, get_put_ne (fun e => h6 e.symm), fun d hd => by rw [get_put_ne (ne_of_get hd h9 (by intro e; cases e)), hd]⟩
    obtain ⟨σ1, hk, hn1, hb1, hd1⟩ := hk
    have hnx : ((σ1.put r (some (.cells s false (some 1, some 5) none))).push (.cells (s ++ c) true (some 1, some 5) (some r))).next = σ.next + 1 := by rw [next_push, next_put, hn1]
    refine ⟨W2 σ σ1 b r s.length s c, app_of rfl (write_next b z r s.length c s lo qv σ σ1 h1 hz hc hone h2 rfl hs hk (by rw [hb1, h1]) hn1 hb h3), ?_, ?_, ⟨hD.nd, fun d hd => ?_⟩⟩
    · refine .cons σ.next (some r) _ ?_ ?_ (by omega) ?_ fun q hq => ?_
      · unfold W2; rw [get_put_eq rfl, List.length_append, hc]
      · unfold W2; rw [get_put_ne (by omega), get_push_eq (by rw [next_put, hn1])]
      · unfold W2; rw [next_put, hnx]; omega
      · cases hq
        refine ⟨h3, by omega, by unfold W2; rw [next_put, hnx]; omega, s, ?_⟩
        unfold W2
        rw [get_put_ne h3, get_push_ne (by rw [next_put, hn1]; omega), get_put_eq rfl]
    · unfold W2; rw [next_put, hnx]; omega
    · obtain ⟨g1, g2⟩ := hD.h d hd
      have hdb : d ≠ b := ne_of_get g2 h1 (by intro e; cases e)
      have hdr : d ≠ r := ne_of_get g2 h2 (by intro e; cases e)
      refine ⟨by unfold W2; rw [next_put, hnx]; omega, ?_⟩
      unfold W2
      rw [get_put_ne hdb, get_push_ne (by rw [next_put, hn1]; omega), get_put_ne hdr, hd1 d g2]

/-! ## The line -/

theorem paint_get : ∀ (l : List Nat) (c : List Value) (i : Nat), (paint c l)[i]? = if i ∈ l then (c[i]?).map fun _ => .int .u8 120 else c[i]?
  | [], c, i => by simp [paint]
  | n :: l, c, i => by
    show (paint (dotted c n) l)[i]? = _
    rw [paint_get l]
    have e : (dotted c n)[i]? = if n = i then (c[i]?).map fun _ => .int .u8 120 else c[i]? := by
      unfold dotted
      rw [List.getElem?_set]
      by_cases h : n = i
      · rw [if_pos h, if_pos h, ← h]
        by_cases h2 : n < c.length
        · rw [if_pos h2, List.getElem?_eq_getElem h2]; rfl
        · rw [if_neg h2, List.getElem?_eq_none (by omega)]; rfl
      · rw [if_neg h, if_neg h]
    rw [e]
    by_cases h1 : n = i
    · subst h1
      rw [if_pos rfl, if_pos (List.mem_cons_self ..)]
      by_cases h2 : n ∈ l
      · rw [if_pos h2, Option.map_map]; rfl
      · rw [if_neg h2]
    · rw [if_neg h1]
      have : i ∈ n :: l ↔ i ∈ l := by
        rw [List.mem_cons]
        exact ⟨fun h => h.elim (fun e => absurd e.symm h1) id, .inr⟩
      by_cases h2 : i ∈ l
      · rw [if_pos h2, if_pos (this.2 h2)]
      · rw [if_neg h2, if_neg (fun h => h2 (this.1 h))]
def byteOf (x : BitVec 64) (k : Nat) : BitVec 64 := (x >>> (8 * k)) &&& 255#64
theorem m255 : ∀ n, n < 64 → (255#64).getLsbD n = decide (n < 8) := by decide
theorem byteOf_bit (x : BitVec 64) (k i : Nat) (hi : i < 64) : (byteOf x k).getLsbD i = (x.getLsbD (8 * k + i) && decide (i < 8)) := by
  unfold byteOf
  rw [BitVec.getLsbD_and, m255 i hi, BitVec.getLsbD_ushiftRight]
theorem byteOf_lt {x : BitVec 64} {k n : Nat} (h : n ∈ bitsL (byteOf x k)) : n < 8 := by
  obtain ⟨h1, h2⟩ := bitsL_mem.1 h
  rw [byteOf_bit x k n h1] at h2
  simp only [Bool.and_eq_true, decide_eq_true_eq] at h2
  exact h2.2
theorem paint_row (x : BitVec 64) (k : Nat) : paint line0 (bitsL (byteOf x k)) = bys (rowB x k 8 ++ [10]) := by
  refine List.ext_getElem? fun i => ?_
  rw [paint_get]
  have hr : (bys (rowB x k 8 ++ [10]))[i]? = ((rowB x k 8 ++ [10])[i]?).map fun b => .int .u8 b.toNat := by unfold bys; rw [List.getElem?_map]
  rw [hr]
  by_cases h8 : i < 8
  · have e1 : (rowB x k 8 ++ [10])[i]? = some (dotx (x.getLsbD (8 * k + i))) := by
      rw [List.getElem?_append_left (by rw [rowB_len]; exact h8)]
      unfold rowB
      rw [List.getElem?_map, List.getElem?_range h8]; rfl
    have e2 : line0[i]? = some (.int .u8 46) := by
      have : ∀ i, i < 8 → line0[i]? = some (.int .u8 46) := by
        intro i hi
        match i, hi with
        | 0, _ | 1, _ | 2, _ | 3, _ | 4, _ | 5, _ | 6, _ | 7, _ => rfl
        | n + 8, h => omega
      exact this i h8
    rw [e1, e2]
    have hb := byteOf_bit x k i (by omega)
    rw [decide_eq_true h8, Bool.and_true] at hb
    cases hx : x.getLsbD (8 * k + i) with
    | true =>
      rw [hx] at hb
      rw [if_pos (bitsL_mem.2 ⟨by omega, hb⟩)]; rfl
    | false =>
      rw [hx] at hb
      rw [if_neg (fun h => by rw [(bitsL_mem.1 h).2] at hb; cases hb)]; rfl
  · rw [if_neg (fun h => h8 (byteOf_lt h))]
    by_cases h9 : i = 8
    · subst h9
      rw [List.getElem?_append_right (by rw [rowB_len]; omega), rowB_len]; rfl
    · have : line0.length = 9 := rfl
      rw [List.getElem?_eq_none (by omega), List.getElem?_eq_none (by rw [List.length_append, rowB_len]; simp; omega)]; rfl
theorem bys_one (l : List UInt8) : (bys l).all oneCell = true := by
  refine List.all_eq_true.2 fun v hv => ?_
  obtain ⟨b, _, rfl⟩ := List.mem_map.1 hv
  rfl
theorem bys_len (l : List UInt8) : (bys l).length = l.length := List.length_map ..
theorem bytesOf_bys : ∀ l : List UInt8, bytesOf (bys l) = some l
  | [] => rfl
  | b :: l => by
    show (match bytesOf (bys l) with
      | some r => some (((b.toNat : Int)).toNat.toUInt8 :: r)
      | none => none) = _
    rw [bytesOf_bys l]
    simp

/-! ## The rounds -/

theorem round32o (x : BitVec 64) (b k : Nat) (hk : k < 8) {σ : AS} {s : List Value} {ds : List Nat} (w : Nat → Value) (hB : Bd σ b s) (hb : b < σ.next) (hs : s.length < 1000) (hD : DS σ ds) :
    ∃ w' σ' ds', runW Tryd.prog env12 0 (.code ⟨32, none⟩ body32 (T32 (u x) b k w) ds) σ = some (.done .normal (T32 (u x) b ((k : Int) - 1) w') ds', σ') ∧ Bd σ' b (s ++ bys (rowB x k 8 ++ [10])) ∧ b < σ'.next ∧ DS σ' ds' := by
  have ew : IntKind.i64.wrap (8 * (k : Int)) = ((8 * k : Nat) : Int) := by rw [wrap64 (by omega) (by omega)]; omega
  have ey : andS (shrS (u x) (IntKind.i64.wrap (8 * (k : Int)))) 255 = u (byteOf x k) := by
    rw [ew, shrS_u x (8 * k) (by omega), show (255 : Int) = u 255#64 from rfl, andS_u]; rfl
  let y := u (byteOf x k)
  have hl1 : (lin σ).get (σ.next + 1) = some (.cells [.slice none 0 0] true (none, some 60) none) := get_push_eq rfl
  have hA : (lin σ).setCells 0 ⟨σ.next + 1, 0, none⟩ [Sl σ.next 9] 0 = some (linA σ) := setCells1 hl1 (by omega) (by decide : 0 < 1) rfl
  have hnB : (linB σ y).next = σ.next + 3 := rfl
  have hnA : (linA σ).next = σ.next + 2 := rfl
  have gq : (linB σ y).get (σ.next + 1) = some (.cells [Sl σ.next 9] true (none, some 60) none) := by
    unfold linB; rw [get_push_ne (by rw [hnA]; omega)]; exact get_put_eq rfl
  have gz : (linB σ y).get σ.next = some (.cells line0 true (some 1, some 5) none) := by
    unfold linB; rw [get_push_ne (by rw [hnA]; omega)]
    unfold linA; rw [get_put_ne (by omega)]
    unfold lin; rw [get_push_ne (by show σ.next ≠ σ.next + 1; omega), get_push_eq rfl]
  have gk : (linB σ y).get (σ.next + 2) = some (.cells [.int .u64 y] true (none, some 23) none) := get_push_eq rfl
  have gold : ∀ j, j < σ.next → (linB σ y).get j = σ.get j := fun j hj => by
    unfold linB; rw [get_push_ne (by rw [hnA]; omega)]
    unfold linA; rw [get_put_ne (by omega)]
    unfold lin; rw [get_push_ne (by show j ≠ σ.next + 1; omega), get_push_ne (by omega)]
  obtain ⟨σC, hC, cz, cn, cold, cd⟩ := rng32_run (w := w32 (u x) k y b σ w) (ds := ds) gq gz rfl gk (fun n hn => by have := byteOf_lt hn; omega) (by rw [hnB]; omega) (by rw [hnB]; omega) (by rw [hnB]; omega) (by omega)
  rw [hnB] at cn cold cd
  have hold : ∀ j, j < σ.next → σC.get j = σ.get j := fun j hj => (cold j (by omega) (by omega)).trans (gold j hj)
  have hL : σC.cell? ⟨σ.next + 1, 0, none⟩ = some (Sl σ.next 9) := cell_of ((cold (σ.next + 1) (by omega) (by omega)).trans gq) rfl
  rw [paint_row] at cz
  have hBC : Bd σC b s := hB.mono hb (by omega) hold
  have hDC : DS σC ((σ.next + 3) :: ds) := by
    refine ⟨List.nodup_cons.2 ⟨fun h => ?_, hD.nd⟩, fun d hd => ?_⟩
    · have := (hD.h _ h).1; omega
    · rcases List.mem_cons.1 hd with rfl | hd
      · exact ⟨by omega, cd⟩
      · obtain ⟨h1, h2⟩ := hD.h d hd
        exact ⟨by omega, by rw [hold d h1, h2]⟩
  obtain ⟨σD, hW, hBD, hnD, hDD⟩ := write_o hBC (by omega) hDC cz (by rw [bys_len, List.length_append, rowB_len]; rfl) (bys_one _) (by omega) hs
  obtain ⟨w', h⟩ := turn32 (u x) k y b σ σC σD w ds (decide_eq_true (by omega)) (by rw [ew]; omega) ey hA hC hL hW
  rw [wrap64 (n := (k : Int) - 1) (by omega) (by omega)] at h
  exact ⟨w', σD, _, h, hBD, by omega, hDD⟩

theorem loop32 (x : BitVec 64) (b : Nat) : ∀ (k : Nat) {σ : AS} {ds : List Nat} (w : Nat → Value), k ≤ 8 → Bd σ b (bys (topB x (8 - k))) → b < σ.next → DS σ ds →
    ∃ w' σ' ds', runW Tryd.prog env12 0 (.code ⟨32, none⟩ (.loop body32) (T32 (u x) b ((k : Int) - 1) w) ds) σ = some (.done (.exit 0) (T32 (u x) b (-1) w') ds', σ') ∧ Bd σ' b (bys (topB x 8)) ∧ DS σ' ds' := by
  intro k
  induction k with
  | zero =>
    intro σ ds w _ hB _ hD
    obtain ⟨w', h⟩ := end32 (u x) (-1) b σ w ds (by decide)
    exact ⟨w', σ, ds, loop_out (by intro h; cases h) h, hB, hD⟩
  | succ k ih =>
    intro σ ds w hk hB hb hD
    obtain ⟨w1, σ1, ds1, h1, hB1, hb1, hD1⟩ := round32o x b k (by omega) w hB hb (by rw [bys_len, topB_len]; omega) hD
    have e : bys (topB x (8 - (k + 1))) ++ bys (rowB x k 8 ++ [10]) = bys (topB x (8 - k)) := by
      rw [show 8 - k = (8 - (k + 1)) + 1 by omega, topB_succ, show 7 - (8 - (k + 1)) = k by omega]
      simp only [bys, List.map_append]
    rw [e] at hB1
    obtain ⟨w', σ', ds', h2, hB2, hD2⟩ := ih w1 (by omega) hB1 hb1 hD1
    rw [show (((k + 1 : Nat) : Int) - 1) = (k : Int) by omega]
    exact ⟨w', σ', ds', loop_next h1 h2, hB2, hD2⟩

def s32 : AS := (base0 4 tabs).push (Bo (.pointer none) (.slice none 0 0))
theorem code32 (x : Int) (s : ByteArray) (w1 : Nat → Value) (ds : List Nat) (σ1 σ2 : AS)
    (h1 : runW Tryd.prog env12 0 (.code ⟨32, none⟩ (.loop body32) (T32 x 4 7 (fun j => Go.Va.look [(2, Value.string ⟨#[]⟩)] j undef)) []) s32 = some (.done (.exit 0) (T32 x 4 (-1) w1) ds, σ1))
    (h2 : applyA Tryd.prog env12 (runW Tryd.prog env12) 0 (.func (.func 58) #[] #[]) [Pb 4] σ1 = some (.string s, σ2)) :
    ∃ w', runW Tryd.prog env12 0 (.code ⟨32, none⟩ (codeOf Tryd.prog 32 []) ([.int .u64 x] ++ List.replicate 26 undef) []) (base0 4 tabs) = some (.done .ret (fillT 27 [(2, .string s)] w') ds, σ2) :=
  seg 100 [(3, .skip (.done (.exit 0) (T32 x 4 (-1) w1) ds) σ1), (0, .sem (.string s) σ2)] (m := 27) (js := [2]) (vs := [.string s])
    (ob := [runW Tryd.prog env12 0 (.code ⟨32, none⟩ (.loop body32) (T32 x 4 7 (fun j => Go.Va.look [(2, Value.string ⟨#[]⟩)] j undef)) []) s32 = some (.done (.exit 0) (T32 x 4 (-1) w1) ds, σ1),
      applyA Tryd.prog env12 (runW Tryd.prog env12) 0 (.func (.func 58) #[] #[]) [Pb 4] σ1 = some (.string s, σ2)]) (by kernel_rfl) ⟨h1, h2⟩

theorem p32 (x : BitVec 64) : Pure Tryd.prog 4 tabs 32 [.int .u64 (u x)] (.string (textS x)) := by
  have hb : s32.get 4 = some (Bo (.pointer none) (.slice none 0 0)) := get_push_eq rfl
  obtain ⟨w1, σ1, ds, h1, hB, hD⟩ := loop32 x 4 8 (σ := s32) (ds := []) (fun j => Go.Va.look [(2, Value.string ⟨#[]⟩)] j undef) (by omega) (.nil hb) (show 4 < 4 + 1 by omega) ⟨List.nodup_nil, fun d hd => by cases hd⟩
  rw [show (((8 : Nat) : Int) - 1) = 7 from rfl] at h1
  have hlen : (bys (topB x 8)).length = 72 := by rw [bys_len, topB_len]
  generalize hs : bys (topB x 8) = s at hB
  cases hB with
  | nil h => rw [hs] at hlen; cases hlen
  | cons r qv _ g1 g2 g3 g4 g5 =>
    rw [hs] at hlen
    rw [hlen] at g1
    have hk : ∃ σ2, σ1.kill 0 qv = some σ2 ∧ ∀ d, σ1.get d = some Dd → σ2.get d = some Dd := by
      cases qv with
      | none => exact ⟨σ1, rfl, fun _ h => h⟩
      | some q =>
        obtain ⟨h6, h7, h8, c', h9⟩ := g5 q rfl
        exact ⟨σ1.put q none, rfl, fun d hd => by rw [get_put_ne (ne_of_get hd h9 (by intro e; cases e)), hd]⟩
    obtain ⟨σ2, hk, hd2⟩ := hk
    have h2 := app_of (P := Tryd.prog) (E := env12) (lim := 0) rfl (string_of 4 r s (topB x 8) qv σ1 σ2 g1 g2 hlen (by rw [← hs]; exact bytesOf_bys _) hk)
    obtain ⟨w', h⟩ := code32 (u x) (textS x) w1 ds σ1 _ h1 h2
    obtain ⟨σ4, h4⟩ := takeA_of (P := Tryd.prog) (lim := 0) ds (σ2.put r (some (.cells s false (some 1, some 5) none))) hD.nd fun d hd => ⟨by omega, by
      have h3 := (hD.h d hd).2
      rw [get_put_ne (ne_of_get h3 g2 (by intro e; cases e))]; exact hd2 d h3⟩
    have hc := call_of (args := [.int .u64 (u x)]) (f := 32) (by rfl) Tryd.func32 (show Tryd.f32.body = some (codeOf Tryd.prog 32 []) by kernel_rfl) h h4 (show runA Tryd.prog 0 (results Tryd.f32 (fillT 27 [(2, .string (textS x))] w').toArray) σ4 = some (.string (textS x), σ4) by kernel_rfl)
    exact topW zeroOk mixed rfl (mix_good _ _) (mix_ok fun f args v _ h => pfT_pure t12_ok f args v h) (fnOk_of rfl fns12) hc rfl (.string _)
end Go.Proofs.YtakchekhpeokjaaDoor

/-
  BITBOARD (chapter 05): BitboardSets is true.
-/
namespace Go.Proofs.YtakchekhpeokjaaDoor
open Go.Va

def kU (g : BitVec 64 → Value) : List Value → Option Value
  | [.int .u64 s] => bif inU s then some (g (BitVec.ofInt 64 s)) else none
  | _ => none
theorem kU_u (g : BitVec 64 → Value) (x : BitVec 64) : kU g [.int .u64 (u x)] = some (g x) := by
  unfold kU
  dsimp only
  rw [inU_u, cond_true, show BitVec.ofInt 64 (u x) = x from ofInt_u x]
theorem kU_ok {f : FuncId} {g : BitVec 64 → Value} (hp : ∀ x, Pure Tryd.prog 4 tabs f [.int .u64 (u x)] (g x)) : KOk Tryd.prog 4 tabs f (kU g) := KOk_u hp fun args v h => by
  unfold kU at h
  split at h
  · rename_i s
    cases hs : inU s with
    | false => rw [hs] at h; cases h
    | true => rw [hs] at h; cases h; exact ⟨s, rfl, hs, rfl⟩
  · cases h
def kUI (g : BitVec 64 → Int → Value) : List Value → Option Value
  | [.int .u64 s, .int .i64 n] => bif inU s then some (g (BitVec.ofInt 64 s) n) else none
  | _ => none
theorem kUI_u (g : BitVec 64 → Int → Value) (x : BitVec 64) (n : Int) : kUI g [.int .u64 (u x), .int .i64 n] = some (g x n) := by
  unfold kUI
  dsimp only
  rw [inU_u, cond_true, show BitVec.ofInt 64 (u x) = x from ofInt_u x]
theorem kUI_ok {f : FuncId} {g : BitVec 64 → Int → Value} (hp : ∀ x n, Pure Tryd.prog 4 tabs f [.int .u64 (u x), .int .i64 n] (g x n)) : KOk Tryd.prog 4 tabs f (kUI g) := by
  intro args v h
  unfold kUI at h
  split at h
  · rename_i s n
    cases hs : inU s with
    | false => rw [hs] at h; cases h
    | true =>
      rw [hs] at h; cases h
      have := hp (BitVec.ofInt 64 s) n
      rw [← ofInt_inU hs] at this
      exact this
  · cases h
def inI (n : Int) : Bool := decide (-9223372036854775808 ≤ n) && decide (n ≤ 9223372036854775807)
theorem inI_of {n : Int} (h : -9223372036854775808 ≤ n ∧ n ≤ 9223372036854775807) : inI n = true := by
  unfold inI
  rw [decide_eq_true h.1, decide_eq_true h.2]; rfl
theorem of_inI {n : Int} (h : inI n = true) : -9223372036854775808 ≤ n ∧ n ≤ 9223372036854775807 := by
  unfold inI at h
  simp only [Bool.and_eq_true, decide_eq_true_eq] at h
  exact h
def kSh : List Value → Option Value
  | [.int .u64 s, .int .i64 f, .int .i64 r] => bif inU s && inI f && inI r then some (.int .u64 (shiftS s f r)) else none
  | _ => none
theorem kSh_u (x : BitVec 64) {f r : Int} (hf : -9223372036854775808 ≤ f ∧ f ≤ 9223372036854775807) (hr : -9223372036854775808 ≤ r ∧ r ≤ 9223372036854775807) : kSh [.int .u64 (u x), .int .i64 f, .int .i64 r] = some (.int .u64 (shiftS (u x) f r)) := by
  unfold kSh
  dsimp only
  rw [inU_u, inI_of hf, inI_of hr]; rfl
theorem kSh_ok {g : FuncId} (hp : ∀ (x : BitVec 64) (f r : Int), -9223372036854775808 ≤ f ∧ f ≤ 9223372036854775807 → -9223372036854775808 ≤ r ∧ r ≤ 9223372036854775807 → Pure Tryd.prog 4 tabs g [.int .u64 (u x), .int .i64 f, .int .i64 r] (.int .u64 (shiftS (u x) f r))) : KOk Tryd.prog 4 tabs g kSh := by
  intro args v h
  unfold kSh at h
  split at h
  · rename_i s f r
    cases hs : (inU s && inI f && inI r) with
    | false => rw [hs] at h; cases h
    | true =>
      rw [hs] at h; cases h
      simp only [Bool.and_eq_true] at hs
      have := hp (BitVec.ofInt 64 s) f r (of_inI hs.1.2) (of_inI hs.2)
      rw [← ofInt_inU hs.1.1] at this
      exact this
  · cases h

noncomputable def t13 : Ktab := (11, kSh) :: (27, kSh) :: (18, kUI fun x n => withV (u x) n) :: (20, kUI fun x n => wioV (u x) n) :: (22, kU lowV) :: (25, kU fun x => .int .i64 ((bitsL x).length : Int)) :: (29, kU fun x => .int .u64 (rbS (u x))) :: (31, kU fun x => .int .u64 (rbS (rvS (u x)))) ::
  (32, kU fun x => .string (textS x)) :: (33, kU fun x => .string (textS x)) :: t12
theorem t13_ok : TOk Tryd.prog 4 tabs t13 :=
  ⟨kSh_ok fun x f r hf hr => p11 (u x) f r hf hr, kSh_ok p27, kUI_ok p18, kUI_ok p20, kU_ok p22, kU_ok p25, kU_ok p29, kU_ok p31, kU_ok p32, kU_ok p33, t12_ok⟩
noncomputable def env13 : Env := envT t13
set_option maxRecDepth 100000 in
theorem fns13 : fnB Tryd.prog 4 env13 okL = true := by kernel_rfl
section
variable (x : BitVec 64) (n : Int) (lim : Nat) (σ : AS)
theorem ov13_11 {f r : Int} (hf : -9223372036854775808 ≤ f ∧ f ≤ 9223372036854775807) (hr : -9223372036854775808 ≤ r ∧ r ≤ 9223372036854775807) : env13.ov 11 [.int .u64 (u x), .int .i64 f, .int .i64 r] lim σ = some (.int .u64 (shiftS (u x) f r), σ) :=
  envK rfl rfl rfl rfl (by unfold t13; rw [pfT_eq]; exact kSh_u x hf hr)
theorem ov13_27 {f r : Int} (hf : -9223372036854775808 ≤ f ∧ f ≤ 9223372036854775807) (hr : -9223372036854775808 ≤ r ∧ r ≤ 9223372036854775807) : env13.ov 27 [.int .u64 (u x), .int .i64 f, .int .i64 r] lim σ = some (.int .u64 (shiftS (u x) f r), σ) :=
  envK rfl rfl rfl rfl (by unfold t13; rw [pfT_ne rfl, pfT_eq]; exact kSh_u x hf hr)
theorem ov13_18 : env13.ov 18 [.int .u64 (u x), .int .i64 n] lim σ = some (withV (u x) n, σ) :=
  envK rfl rfl rfl rfl (by unfold t13; iterate 2 rw [pfT_ne rfl]
                           rw [pfT_eq]; exact kUI_u _ x n)
theorem ov13_20 : env13.ov 20 [.int .u64 (u x), .int .i64 n] lim σ = some (wioV (u x) n, σ) :=
  envK rfl rfl rfl rfl (by unfold t13; iterate 3 rw [pfT_ne rfl]
                           rw [pfT_eq]; exact kUI_u _ x n)
theorem ov13_22 : env13.ov 22 [.int .u64 (u x)] lim σ = some (lowV x, σ) :=
  envK rfl rfl rfl rfl (by unfold t13; iterate 4 rw [pfT_ne rfl]
                           rw [pfT_eq]; exact kU_u _ x)
theorem ov13_25 : env13.ov 25 [.int .u64 (u x)] lim σ = some (.int .i64 ((bitsL x).length : Int), σ) :=
  envK rfl rfl rfl rfl (by unfold t13; iterate 5 rw [pfT_ne rfl]
                           rw [pfT_eq]; exact kU_u (fun x => .int .i64 ((bitsL x).length : Int)) x)
theorem ov13_29 : env13.ov 29 [.int .u64 (u x)] lim σ = some (.int .u64 (rbS (u x)), σ) :=
  envK rfl rfl rfl rfl (by unfold t13; iterate 6 rw [pfT_ne rfl]
                           rw [pfT_eq]; exact kU_u (fun x => .int .u64 (rbS (u x))) x)
theorem ov13_31 : env13.ov 31 [.int .u64 (u x)] lim σ = some (.int .u64 (rbS (rvS (u x))), σ) :=
  envK rfl rfl rfl rfl (by unfold t13; iterate 7 rw [pfT_ne rfl]
                           rw [pfT_eq]; exact kU_u (fun x => .int .u64 (rbS (rvS (u x)))) x)
theorem ov13_32 : env13.ov 32 [.int .u64 (u x)] lim σ = some (.string (textS x), σ) :=
  envK rfl rfl rfl rfl (by unfold t13; iterate 8 rw [pfT_ne rfl]
                           rw [pfT_eq]; exact kU_u (fun x => .string (textS x)) x)
theorem ov13_33 : env13.ov 33 [.int .u64 (u x)] lim σ = some (.string (textS x), σ) :=
  envK rfl rfl rfl rfl (by unfold t13; iterate 9 rw [pfT_ne rfl]
                           rw [pfT_eq]; exact kU_u (fun x => .string (textS x)) x)
theorem ov13_26 : env13.ov 26 [.int .u64 (u x)] lim σ = some (lstV (bitsL x), σ) :=
  envK rfl rfl rfl rfl (by unfold t13 t12 t11; iterate 11 rw [pfT_ne rfl]
                           rw [pfT_eq]; exact k15_u x)
theorem ov13_15 : env13.ov 15 [.int .u64 (u x)] lim σ = some (lstV (bitsL x), σ) :=
  envK rfl rfl rfl rfl (by unfold t13 t12 t11 t10; iterate 13 rw [pfT_ne rfl]
                           rw [pfT_eq]; exact k15_u x)
theorem ov13_23 : env13.ov 23 [.int .u64 (u x), .int .i64 n] lim σ = some (.bool (hasS (u x) n), σ) :=
  envK rfl rfl rfl rfl (by unfold t13 t12 t11 t10 t9; iterate 14 rw [pfT_ne rfl]
                           rw [pfT_eq]; unfold k23; dsimp only; rw [inU_u, cond_true])
theorem pf13_16 (args : List Value) : pfT t13 16 args = k16 args := by
  unfold t13 t12 t11 t10 t9 t8; iterate 15 rw [pfT_ne rfl]
  rw [pfT_eq]
theorem ov13_21 : env13.ov 21 [.int .u64 (u x)] lim σ = some (lowV x, σ) :=
  envK rfl rfl rfl rfl (by unfold t13 t12 t11 t10 t9 t8; iterate 16 rw [pfT_ne rfl]
                           rw [pfT_eq]; exact k21_u x)
end

def hints5 (x : BitVec 64) (n f r : Int) (V : Value) : List (Nat × Hint) :=
  [(15, .ov (withV (u x) n)), (15, .ov (wioV (u x) n)), (6, .ov (lowV x)), (6, .ov (lowV x)), (7, .br true), (3, .br true), (4, .br true), (4, .br true), (4, .br true), (4, .br true), (7, .ov (.bool (hasS (u x) n))), (0, .br true),
    (5, .ov (.int .i64 ((bitsL x).length : Int))), (0, .br true), (3, .ov V), (1, .ov V), (0, .ov (.bool true)), (5, .ov (.int .u64 (shiftS (u x) f r))), (3, .ov (.int .u64 (shiftS (u x) f r))), (0, .br true),
    (5, .ov (.int .u64 (rbS (u x)))), (0, .br true), (5, .ov (.int .u64 (rbS (rvS (u x))))), (0, .br true), (3, .ov (.string (textS x))), (1, .ov (.string (textS x))), (0, .br true)]
theorem law5_nil (x : BitVec 64) (n f r : Int) (hf : -9223372036854775808 ≤ f ∧ f ≤ 9223372036854775807) (hr : -9223372036854775808 ≤ r ∧ r ≤ 9223372036854775807)
    (h15 : ∀ σ, env13.ov 15 [.int .u64 (u x)] 0 σ = some (.slice none 0 0, σ)) (h26 : ∀ σ, env13.ov 26 [.int .u64 (u x)] 0 σ = some (.slice none 0 0, σ)) (h16 : ∀ σ, env13.ov 16 [.slice none 0 0, .slice none 0 0] 0 σ = some (.bool true, σ)) :
    Pure Tryd.prog 4 tabs 5 [.int .u64 (u x), .int .i64 n, .int .i64 f, .int .i64 r] (.bool true) :=
  pureT t13_ok fns13 (n := 1000) (v := .bool true) (hints5 x n f r (.slice none 0 0))
    [(∀ σ, env13.ov 18 [.int .u64 (u x), .int .i64 n] 0 σ = some (withV (u x) n, σ)), (∀ σ, env13.ov 20 [.int .u64 (u x), .int .i64 n] 0 σ = some (wioV (u x) n, σ)), (∀ σ, env13.ov 21 [.int .u64 (u x)] 0 σ = some (lowV x, σ)), (∀ σ, env13.ov 22 [.int .u64 (u x)] 0 σ = some (lowV x, σ)),
      (withS (u x) n == withS (u x) n) = true, (okOr (inr n 64) == okOr (inr n 64)) = true, (wioS (u x) n == wioS (u x) n) = true, (okOr (inr n 64) == okOr (inr n 64)) = true,
      ((bif x == 0#64 then 0 else (tz x : Int)) == (bif x == 0#64 then 0 else (tz x : Int))) = true, ((!(x == 0#64)) == (!(x == 0#64))) = true, (∀ σ, env13.ov 23 [.int .u64 (u x), .int .i64 n] 0 σ = some (.bool (hasS (u x) n), σ)), (hasS (u x) n == hasS (u x) n) = true,
      (∀ σ, env13.ov 25 [.int .u64 (u x)] 0 σ = some (.int .i64 ((bitsL x).length : Int), σ)), (lenS (u x) == ((bitsL x).length : Int)) = true, (∀ σ, env13.ov 15 [.int .u64 (u x)] 0 σ = some (.slice none 0 0, σ)), (∀ σ, env13.ov 26 [.int .u64 (u x)] 0 σ = some (.slice none 0 0, σ)), (∀ σ, env13.ov 16 [.slice none 0 0, .slice none 0 0] 0 σ = some (.bool true, σ)),
      (∀ σ, env13.ov 11 [.int .u64 (u x), .int .i64 f, .int .i64 r] 0 σ = some (.int .u64 (shiftS (u x) f r), σ)), (∀ σ, env13.ov 27 [.int .u64 (u x), .int .i64 f, .int .i64 r] 0 σ = some (.int .u64 (shiftS (u x) f r), σ)), (shiftS (u x) f r == shiftS (u x) f r) = true,
      (∀ σ, env13.ov 29 [.int .u64 (u x)] 0 σ = some (.int .u64 (rbS (u x)), σ)), (rbS (u x) == rbS (u x)) = true, (∀ σ, env13.ov 31 [.int .u64 (u x)] 0 σ = some (.int .u64 (rbS (rvS (u x))), σ)), (rbS (rvS (u x)) == rbS (rvS (u x))) = true,
      (∀ σ, env13.ov 32 [.int .u64 (u x)] 0 σ = some (.string (textS x), σ)), (∀ σ, env13.ov 33 [.int .u64 (u x)] 0 σ = some (.string (textS x), σ)), ((textS x).toList == (textS x).toList) = true] (by kernel_rfl)
    ⟨fun σ => ov13_18 x n 0 σ, fun σ => ov13_20 x n 0 σ, fun σ => ov13_21 x 0 σ, fun σ => ov13_22 x 0 σ, beq_self_eq_true _, beq_self_eq_true _, beq_self_eq_true _, beq_self_eq_true _, beq_self_eq_true _, beq_self_eq_true _, fun σ => ov13_23 x n 0 σ, beq_self_eq_true _,
      fun σ => ov13_25 x 0 σ, by rw [lenS_u]; exact beq_self_eq_true _, h15, h26, h16, fun σ => ov13_11 x 0 σ hf hr, fun σ => ov13_27 x 0 σ hf hr, beq_self_eq_true _, fun σ => ov13_29 x 0 σ, beq_self_eq_true _, fun σ => ov13_31 x 0 σ, beq_self_eq_true _,
      fun σ => ov13_32 x 0 σ, fun σ => ov13_33 x 0 σ, beq_self_eq_true _⟩ rfl (.bool true)
theorem law5_cons (x : BitVec 64) (n f r : Int) (hf : -9223372036854775808 ≤ f ∧ f ≤ 9223372036854775807) (hr : -9223372036854775808 ≤ r ∧ r ≤ 9223372036854775807)
    (h15 : ∀ σ, env13.ov 15 [.int .u64 (u x)] 0 σ = some (L (ints (bitsL x)) (bitsL x).length 1 0, σ)) (h26 : ∀ σ, env13.ov 26 [.int .u64 (u x)] 0 σ = some (L (ints (bitsL x)) (bitsL x).length 1 0, σ)) (h16 : ∀ σ, env13.ov 16 [L (ints (bitsL x)) (bitsL x).length 1 0, L (ints (bitsL x)) (bitsL x).length 1 0] 0 σ = some (.bool true, σ)) :
    Pure Tryd.prog 4 tabs 5 [.int .u64 (u x), .int .i64 n, .int .i64 f, .int .i64 r] (.bool true) :=
  pureT t13_ok fns13 (n := 1000) (v := .bool true) (hints5 x n f r (L (ints (bitsL x)) (bitsL x).length 1 0))
    [(∀ σ, env13.ov 18 [.int .u64 (u x), .int .i64 n] 0 σ = some (withV (u x) n, σ)), (∀ σ, env13.ov 20 [.int .u64 (u x), .int .i64 n] 0 σ = some (wioV (u x) n, σ)), (∀ σ, env13.ov 21 [.int .u64 (u x)] 0 σ = some (lowV x, σ)), (∀ σ, env13.ov 22 [.int .u64 (u x)] 0 σ = some (lowV x, σ)),
      (withS (u x) n == withS (u x) n) = true, (okOr (inr n 64) == okOr (inr n 64)) = true, (wioS (u x) n == wioS (u x) n) = true, (okOr (inr n 64) == okOr (inr n 64)) = true,
      ((bif x == 0#64 then 0 else (tz x : Int)) == (bif x == 0#64 then 0 else (tz x : Int))) = true, ((!(x == 0#64)) == (!(x == 0#64))) = true, (∀ σ, env13.ov 23 [.int .u64 (u x), .int .i64 n] 0 σ = some (.bool (hasS (u x) n), σ)), (hasS (u x) n == hasS (u x) n) = true,
      (∀ σ, env13.ov 25 [.int .u64 (u x)] 0 σ = some (.int .i64 ((bitsL x).length : Int), σ)), (lenS (u x) == ((bitsL x).length : Int)) = true, (∀ σ, env13.ov 15 [.int .u64 (u x)] 0 σ = some (L (ints (bitsL x)) (bitsL x).length 1 0, σ)), (∀ σ, env13.ov 26 [.int .u64 (u x)] 0 σ = some (L (ints (bitsL x)) (bitsL x).length 1 0, σ)), (∀ σ, env13.ov 16 [L (ints (bitsL x)) (bitsL x).length 1 0, L (ints (bitsL x)) (bitsL x).length 1 0] 0 σ = some (.bool true, σ)),
      (∀ σ, env13.ov 11 [.int .u64 (u x), .int .i64 f, .int .i64 r] 0 σ = some (.int .u64 (shiftS (u x) f r), σ)), (∀ σ, env13.ov 27 [.int .u64 (u x), .int .i64 f, .int .i64 r] 0 σ = some (.int .u64 (shiftS (u x) f r), σ)), (shiftS (u x) f r == shiftS (u x) f r) = true,
      (∀ σ, env13.ov 29 [.int .u64 (u x)] 0 σ = some (.int .u64 (rbS (u x)), σ)), (rbS (u x) == rbS (u x)) = true, (∀ σ, env13.ov 31 [.int .u64 (u x)] 0 σ = some (.int .u64 (rbS (rvS (u x))), σ)), (rbS (rvS (u x)) == rbS (rvS (u x))) = true,
      (∀ σ, env13.ov 32 [.int .u64 (u x)] 0 σ = some (.string (textS x), σ)), (∀ σ, env13.ov 33 [.int .u64 (u x)] 0 σ = some (.string (textS x), σ)), ((textS x).toList == (textS x).toList) = true] (by kernel_rfl)
    ⟨fun σ => ov13_18 x n 0 σ, fun σ => ov13_20 x n 0 σ, fun σ => ov13_21 x 0 σ, fun σ => ov13_22 x 0 σ, beq_self_eq_true _, beq_self_eq_true _, beq_self_eq_true _, beq_self_eq_true _, beq_self_eq_true _, beq_self_eq_true _, fun σ => ov13_23 x n 0 σ, beq_self_eq_true _,
      fun σ => ov13_25 x 0 σ, by rw [lenS_u]; exact beq_self_eq_true _, h15, h26, h16, fun σ => ov13_11 x 0 σ hf hr, fun σ => ov13_27 x 0 σ hf hr, beq_self_eq_true _, fun σ => ov13_29 x 0 σ, beq_self_eq_true _, fun σ => ov13_31 x 0 σ, beq_self_eq_true _,
      fun σ => ov13_32 x 0 σ, fun σ => ov13_33 x 0 σ, beq_self_eq_true _⟩ rfl (.bool true)
theorem ov13_16 {a : Value} {l : List Int} (lim : Nat) (σ : AS) (ea : strip a = a) (ha : IsZ a l) : env13.ov 16 [a, a] lim σ = some (.bool true, σ) := by
  refine envT_ov rfl rfl (pureOv_of ?_ ?_)
  · show (flatB 100 (strip a) && (flatB 100 (strip a) && true)) = true
    rw [ea, IsZ_flat ha]; rfl
  · show pfT t13 16 [strip a, strip a] = _
    rw [ea, pf13_16, k16_eq ha ha, beq_self_eq_true]
theorem law5' (s n f r : Int) (h0 : IntKind.u64.min ≤ s) (h1 : s ≤ IntKind.u64.max) (_ : IntKind.i64.min ≤ n) (_ : n ≤ IntKind.i64.max) (f0 : IntKind.i64.min ≤ f) (f1 : f ≤ IntKind.i64.max) (r0 : IntKind.i64.min ≤ r) (r1 : r ≤ IntKind.i64.max) :
    Pure Tryd.prog 4 tabs 5 [.int .u64 s, .int .i64 n, .int .i64 f, .int .i64 r] (.bool true) := by
  have a0 : (0 : Int) ≤ s := h0
  have a1 : s ≤ 18446744073709551615 := h1
  rw [u_of s a0 (by omega)]
  generalize BitVec.ofInt 64 s = x
  by_cases hx : bitsL x = []
  · have e : lstV (bitsL x) = .slice none 0 0 := by rw [hx]; rfl
    exact law5_nil x n f r ⟨f0, f1⟩ ⟨r0, r1⟩ (fun σ => by rw [← e]; exact ov13_15 x 0 σ) (fun σ => by rw [← e]; exact ov13_26 x 0 σ) fun σ => ov13_16 0 σ rfl IsZ_nil
  · have e : lstV (bitsL x) = L (ints (bitsL x)) (bitsL x).length 1 0 := by
      cases h : bitsL x with
      | nil => exact absurd h hx
      | cons a l => rfl
    have hl := bitsL_length x
    exact law5_cons x n f r ⟨f0, f1⟩ ⟨r0, r1⟩ (fun σ => by rw [← e]; exact ov13_15 x 0 σ) (fun σ => by rw [← e]; exact ov13_26 x 0 σ) fun σ => ov13_16 0 σ rfl (IsZ_L (l := bitsL x) rfl (Nat.zero_le 1) (by omega))
end Go.Proofs.YtakchekhpeokjaaDoor
