/-
  BITBOARD (chapter 05): Text: one line is painted, on an open heap.
-/
import Derived.Test.YtakchekhpeokjaaDoorD05tb
namespace Go.Proofs.YtakchekhpeokjaaDoor
open Go.Va

noncomputable def rng32 : Code := codeOf Tryd.prog 32 [.r, .r, .l, .r, .b, .b, .r, .l, .b, .r, .l, .r, .b]
noncomputable def asg32 : Code := match rng32 with
  | .rangeFunc _ _ a _ => a
  | _ => .skip
noncomputable def bod32 : Code := match rng32 with
  | .rangeFunc _ _ _ b => b
  | _ => .skip
theorem rng32_eq : rng32 = .rangeFunc (.tmp 19) #[20] asg32 bod32 := by kernel_rfl
def F51c (k : Nat) : Value := .func (.func 51) #[] #[Pb k]
def T32r (q k : Nat) (w : Nat → Value) : List Value := fillT 27 [(5, Pb q), (19, F51c k)] w
noncomputable def lpL (t : List Value) (d : Nat) : Go.Loop := { state := .ready, pending := none, fn := 32, tmps := t.toArray, params := #[20], assign := asg32, body := bod32, defers := d }

theorem asg32_run (l q k : Nat) (n : Int) (w : Nat → Value) (σ : AS) :
    ∃ w', runW Tryd.prog env12 0 (.code ⟨32, some l⟩ asg32 (fillT 27 [(20, .int .i64 n), (5, Pb q), (19, F51c k)] w) []) σ = some (.done .normal (fillT 27 [(5, Pb q), (6, .int .i64 n)] w') [], σ) :=
  seg 100 [] (m := 27) (js := [5, 6]) (vs := [Pb q, .int .i64 n]) (ob := []) (by kernel_rfl) trivial
def dotted (c : List Value) (n : Nat) : List Value := c.set n (.int .u8 120)
theorem bod32_run (l q z n : Nat) (c : List Value) (lo : Lo) (w : Nat → Value) (σ : AS) (hq : σ.get q = some (.cells [Sl z 9] true (none, some 60) none)) (hz : σ.get z = some (.cells c true lo none)) (hc : c.length = 9) (hn : n < 9) :
    ∃ w', runW Tryd.prog env12 0 (.code ⟨32, some l⟩ bod32 (fillT 27 [(5, Pb q), (6, .int .i64 n)] w) []) σ = some (.done .normal (fillT 27 [(5, Pb q)] w') [], σ.put z (some (.cells (dotted c n) true lo none))) :=
  seg 100 [(0, .is (Sl z 9)), (1, .ok), (0, .sem undef (σ.put z (some (.cells (dotted c n) true lo none))))] (m := 27) (js := [5]) (vs := [Pb q])
    (ob := [σ.cell? ⟨q, 0, none⟩ = some (Sl z 9), (0 : Int) ≤ n ∧ (n : Int) < (9 : Nat), σ.setCells 0 ⟨z, 0 + (n : Int).toNat * 1, none⟩ [.int .u8 120] 0 = some (σ.put z (some (.cells (dotted c n) true lo none)))]) (by kernel_rfl)
    ⟨cell_of hq rfl, ⟨by omega, by omega⟩, by
      rw [show 0 + (n : Int).toNat * 1 = n by omega]
      exact setCells1 hz (by omega) (by omega) rfl⟩

structure P32 (σ : AS) (l q z : Nat) (t : List Value) (d : Nat) (c : List Value) (lo : Lo) : Prop where
  hl : σ.get l = some (.obj (.loop (lpL t d)))
  hq : σ.get q = some (.cells [Sl z 9] true (none, some 60) none)
  hz : σ.get z = some (.cells c true lo none)
  hc : c.length = 9
/-- Nothing else is written. -/
def Same2 (σ σ' : AS) (l z : Nat) : Prop := σ'.next = σ.next ∧ ∀ j, j ≠ l → j ≠ z → σ'.get j = σ.get j

set_option maxRecDepth 100000 in
theorem args32 (q k : Nat) (v : Value) (w : Nat → Value) :
    ((((#[20] : Array Tmp).zip [v].toArray).foldl (fun tmps (x : Tmp × Value) => tmps.setIfInBounds x.1 x.2) (T32r q k w).toArray).toList) = fillT 27 [(20, v), (5, Pb q), (19, F51c k)] w := by kernel_rfl

theorem yld32 {l q z k d n : Nat} {c : List Value} {lo : Lo} {w : Nat → Value} {σ : AS} (h : P32 σ l q z (T32r q k w) d c lo) (hn : n < 9) (hql : q ≠ l) (hzl : z ≠ l) (hqz : q ≠ z) :
    ∃ σ', applyA Tryd.prog env12 (runW Tryd.prog env12) 0 (.func (.yield l) #[] #[]) [.int .i64 n] σ = some (.bool true, σ') ∧ P32 σ' l q z (T32r q k w) d (dotted c n) lo ∧ Same2 σ σ' l z := by
  obtain ⟨w1, h1⟩ := asg32_run l q k n w σ
  let σ1 := σ.put l (some (.obj (.loop { lpL (T32r q k w) d with state := .busy })))
  have hq1 : σ1.get q = some (.cells [Sl z 9] true (none, some 60) none) := by rw [get_put_ne hql, h.hq]
  have hz1 : σ1.get z = some (.cells c true lo none) := by rw [get_put_ne hzl, h.hz]
  obtain ⟨w2, h2⟩ := bod32_run l q z n c lo w1 σ1 hq1 hz1 h.hc hn
  let σ3 := σ1.put z (some (.cells (dotted c n) true lo none))
  have hl3 : σ3.get l = some (.obj (.loop { lpL (T32r q k w) d with state := .busy })) := by
    rw [get_put_ne (fun e => hzl e.symm), get_put_eq rfl]
  have hr := round_of (lim := 0) h1 h.hl rfl (by omega) h2 hl3
  refine ⟨σ3.put l (some (.obj (.loop (lpL (T32r q k w) d)))), ?_, ⟨?_, ?_, ?_, ?_⟩, rfl, ?_⟩
  · refine yield_of h.hl rfl ?_
    have e := args32 q k (.int .i64 n) w
    show runW Tryd.prog env12 0 (.round l 32 ((((#[20] : Array Tmp).zip [Value.int .i64 n].toArray).foldl (fun tmps (x : Tmp × Value) => tmps.setIfInBounds x.1 x.2) (T32r q k w).toArray).toList) asg32 bod32) σ = _
    rw [e]
    exact hr
  · exact get_put_eq rfl
  · rw [get_put_ne hql, get_put_ne hqz, hq1]
  · rw [get_put_ne hzl, get_put_eq rfl]
  · unfold dotted; rw [List.length_set]; exact h.hc
  · intro j hj hz'
    rw [get_put_ne hj, get_put_ne hz', get_put_ne hj]

def T51o (l k : Nat) (r : Int) (w : Nat → Value) : List Value := fillT 16 [(0, .func (.yield l) #[] #[]), (1, Pb k), (3, .int .u64 r)] w
theorem ov12_52 (x : BitVec 64) (lim : Nat) (σ : AS) : env12.ov 52 [.int .u64 (u x)] lim σ = some (.int .i64 (tz x), σ) :=
  envK rfl rfl rfl rfl (by unfold t12 t11 t10 t9 t8 t6; iterate 20 rw [pfT_ne rfl]
                           rw [pfT_eq]; exact k52_u x)
theorem next51o (l k : Nat) (r n : Int) (σ σ' : AS) (w : Nat → Value) (h1 : (r != 0) = true) (h2 : ∀ σ, env12.ov 52 [.int .u64 r] 0 σ = some (.int .i64 n, σ))
    (h3 : applyA Tryd.prog env12 (runW Tryd.prog env12) 0 (.func (.yield l) #[] #[]) [.int .i64 n] σ = some (.bool true, σ')) :
    ∃ w', runW Tryd.prog env12 0 (.code ⟨51, none⟩ body51 (T51o l k r w) []) σ = some (.done .normal (T51o l k (andS r (subS r 1)) w') [], σ') :=
  seg 100 [(1, .br true), (3, .ov (.int .i64 n)), (0, .sem (.bool true) σ')] (m := 16) (js := [0, 1, 3]) (vs := [.func (.yield l) #[] #[], Pb k, .int .u64 (andS r (subS r 1))])
    (ob := [(r != 0) = true, (∀ σ, env12.ov 52 [.int .u64 r] 0 σ = some (.int .i64 n, σ)), applyA Tryd.prog env12 (runW Tryd.prog env12) 0 (.func (.yield l) #[] #[]) [.int .i64 n] σ = some (.bool true, σ')]) (by kernel_rfl) ⟨h1, h2, h3⟩
theorem end51o (l k : Nat) (σ : AS) (w : Nat → Value) :
    ∃ w', runW Tryd.prog env12 0 (.code ⟨51, none⟩ body51 (T51o l k 0 w) []) σ = some (.done (.exit 0) (T51o l k 0 w') [], σ) :=
  seg 100 [] (m := 16) (js := [0, 1, 3]) (vs := [.func (.yield l) #[] #[], Pb k, .int .u64 0]) (ob := []) (by kernel_rfl) trivial

def paint (c : List Value) (l : List Nat) : List Value := l.foldl dotted c
theorem paint_len : ∀ (l : List Nat) (c : List Value), (paint c l).length = c.length
  | [], _ => rfl
  | n :: l, c => by
    show (paint (dotted c n) l).length = _
    rw [paint_len l]; unfold dotted; rw [List.length_set]

theorem loop51o {l q z kk d : Nat} {lo : Lo} {w0 : Nat → Value} (hql : q ≠ l) (hzl : z ≠ l) (hqz : q ≠ z) : ∀ (k : Nat) (x : BitVec 64) (c : List Value) (σ : AS) (w : Nat → Value), (bitsL x).length = k → (∀ n ∈ bitsL x, n < 9) → P32 σ l q z (T32r q kk w0) d c lo →
    ∃ w' σ', runW Tryd.prog env12 0 (.code ⟨51, none⟩ (.loop body51) (T51o l kk (u x) w) []) σ = some (.done (.exit 0) (T51o l kk 0 w') [], σ') ∧ P32 σ' l q z (T32r q kk w0) d (paint c (bitsL x)) lo ∧ Same2 σ σ' l z := by
  intro k
  induction k with
  | zero =>
    intro x c σ w h1 h2 hP
    have e := List.eq_nil_of_length_eq_zero h1
    rw [e, bits_ne e]
    obtain ⟨w', h⟩ := end51o l kk σ w
    exact ⟨w', σ, loop_out (by intro h; cases h) h, hP, rfl, fun _ _ _ => rfl⟩
  | succ k ih =>
    intro x c σ w h1 h2 hP
    have hx : x ≠ 0#64 := by
      intro e; rw [e, bits_zero] at h1; cases h1
    have hb := bits_cons hx
    rw [hb] at h1 h2 ⊢
    obtain ⟨σ1, hy, hP1, hs1⟩ := yld32 hP (h2 _ (List.mem_cons_self ..)) hql hzl hqz
    obtain ⟨w1, h⟩ := next51o l kk (u x) (tz x) σ σ1 w (u_ne hx) (fun σ => ov12_52 x 0 σ) hy
    rw [rest_u] at h
    obtain ⟨w', σ', h', hP', hs'⟩ := ih (restB x) (dotted c (tz x)) σ1 w1 (by simpa using h1) (fun n hn => h2 n (List.mem_cons_of_mem _ hn)) hP1
    exact ⟨w', σ', loop_next h h', hP', hs'.1.trans hs1.1, fun j h3 h4 => (hs'.2 j h3 h4).trans (hs1.2 j h3 h4)⟩

theorem call51o (l k : Nat) (x : Int) (lo : Lo) (rw : Bool) (pv : Option Nat) (w' : Nat → Value) (σ σ' : AS) (hk : σ.get k = some (.cells [.int .u64 x] rw lo pv))
    (h : runW Tryd.prog env12 0 (.code ⟨51, none⟩ (.loop body51) (T51o l k x (fun j => Go.Va.look [(4, Value.int .u64 x)] j undef)) []) σ = some (.done (.exit 0) (T51o l k 0 w') [], σ')) :
    runW Tryd.prog env12 0 (.call 51 [.func (.yield l) #[] #[], Pb k]) σ = some (.val (.tuple #[]), σ') :=
  runW_of_whole (n := 100) (hs := [(0, .is (.int .u64 x)), (1, .skip (.done (.exit 0) (T51o l k 0 w') []) σ')])
    (ob := [σ.cell? ⟨k, 0, none⟩ = some (.int .u64 x), runW Tryd.prog env12 0 (.code ⟨51, none⟩ (.loop body51) (T51o l k x (fun j => Go.Va.look [(4, Value.int .u64 x)] j undef)) []) σ = some (.done (.exit 0) (T51o l k 0 w') [], σ')]) (by kernel_rfl)
    ⟨cell_of hk rfl, h⟩

/-- The line z is painted. -/
theorem rng32_run {q z k : Nat} {c : List Value} {lo lo1 : Lo} {w : Nat → Value} {ds : List Nat} {σ : AS} {x : BitVec 64} (hq : σ.get q = some (.cells [Sl z 9] true (none, some 60) none)) (hz : σ.get z = some (.cells c true lo none)) (hc : c.length = 9)
    (hk : σ.get k = some (.cells [.int .u64 (u x)] true lo1 none)) (hx : ∀ n ∈ bitsL x, n < 9) (hqn : q < σ.next) (hzn : z < σ.next) (hkn : k < σ.next) (hqz : q ≠ z) :
    ∃ σ', runW Tryd.prog env12 0 (.code ⟨32, none⟩ rng32 (T32r q k w) ds) σ = some (.done .normal (T32r q k w) (σ.next :: ds), σ') ∧ σ'.get z = some (.cells (paint c (bitsL x)) true lo none) ∧ σ'.next = σ.next + 2 ∧
      (∀ j, j < σ.next → j ≠ z → σ'.get j = σ.get j) ∧ σ'.get σ.next = some (.obj (.deferred (some []))) := by
  let σ1 := (σ.push (.obj (.deferred (some [])))).push (.obj (.loop (lpL (T32r q k w) σ.next)))
  have hn1 : (σ.push (.obj (.deferred (some [])))).next = σ.next + 1 := rfl
  have hold : ∀ j, j < σ.next → σ1.get j = σ.get j := fun j hj => by
    rw [get_push_ne (by rw [hn1]; omega), get_push_ne (by omega)]
  have hP : P32 σ1 (σ.next + 1) q z (T32r q k w) σ.next c lo := ⟨get_push_eq rfl, by rw [hold q hqn, hq], by rw [hold z hzn, hz], hc⟩
  obtain ⟨w', σ2, h, hP2, hs⟩ := loop51o (by omega) (by omega) hqz (bitsL x).length x c σ1 (fun j => Go.Va.look [(4, Value.int .u64 (u x))] j undef) rfl hx hP
  have hcall := call51o (σ.next + 1) k (u x) lo1 true none w' σ1 σ2 (by rw [hold k hkn, hk]) h
  refine ⟨σ2.put (σ.next + 1) (some (.obj (.loop { lpL (T32r q k w) σ.next with state := .exhausted }))), ?_, ?_, ?_, ?_, ?_⟩
  · rw [rng32_eq]
    exact range_of (cap := #[Pb k]) (by kernel_rfl) rfl hcall hP2.hl rfl rfl (by omega)
  · rw [get_put_ne (by omega), hP2.hz]
  · rw [next_put, hs.1]; rfl
  · intro j hj hjz
    rw [get_put_ne (by omega), hs.2 j (by omega) hjz, hold j hj]
  · rw [get_put_ne (by omega), hs.2 _ (by omega) (by omega), get_push_ne (by rw [hn1]; omega), get_push_eq rfl]
end Go.Proofs.YtakchekhpeokjaaDoor
