/-
  The functions that the statement reaches: what they answer, part 8.
-/
import Derived.Test.YtakchekhpeokjaaDoorPart7
import Derived.Lib.Bytealg
import Derived.Test.YtakchekhpeokjaaDoorVap4

/-
  BITBOARD (chapter 05): how often a line's end occurs, and where first.
-/
namespace Go.Proofs.YtakchekhpeokjaaDoor
open Go.Va

/-- A function of the model's own that answers at once. -/
theorem pure_of_same {P : Program} {G : Nat} {tabs : List (Nat × List Value)} {f : FuncId} {args : List Value} {v : Value} (ha : args.all (plainB 100) = true) (hv : plainB 100 v = true) (h : ∀ w, (callFunc f args.toArray).run P w = .ok (.value v) w) : Pure P G tabs f args v := by
  refine ⟨plain_PF 100 v hv, fun w hT z hz args' hargs => ?_⟩
  have ea : args' = args.toArray := by
    have := plain_lRel_eq args args'.toList ha hargs
    rw [← this]
  subst ea
  exact .value (h w) ⟨RowKit.Below.refl _ _, z, hz, .refl _, plain_rel 100 v hv⟩

theorem next79 : Extern.findNext Tryd.f79 = Option.none := by kernel_rfl
theorem find79 : Extern.find Tryd.f79 = some Extern.BytealgCount.count := by kernel_rfl
theorem body79 : Tryd.f79.body.isNone = true := by kernel_rfl
theorem name79 : (Tryd.f79.name == "runtime.NumGoroutine") = false := by kernel_rfl
theorem next87 : Extern.findNext Tryd.f87 = Option.none := by kernel_rfl
theorem find87 : Extern.find Tryd.f87 = some Extern.BytealgIndexByte.indexByte := by kernel_rfl
theorem body87 : Tryd.f87.body.isNone = true := by kernel_rfl
theorem name87 : (Tryd.f87.name == "runtime.NumGoroutine") = false := by kernel_rfl
def k79 : List Value → Option Value
  | [.string s, .int .u8 c] => some (.int .i64 (Lib.countByte s.data.toList c.toNat.toUInt8))
  | _ => none
def k87 : List Value → Option Value
  | [.string s, .int .u8 c] => some (.int .i64 (Lib.indexByte s.data.toList c.toNat.toUInt8))
  | _ => none
theorem p79 : KOk Tryd.prog 4 tabs 79 k79 := by
  intro args v hp
  unfold k79 at hp
  split at hp
  · rename_i s c
    simp only [Option.some.injEq] at hp
    subst hp
    refine pure_of_same rfl rfl fun w => ?_
    unfold callFunc
    rw [run_bind', show (Go.program).run Tryd.prog w = .ok Tryd.prog w from rfl]
    simp only [Tryd.func79, name79, Bool.false_eq_true, if_false, body79, if_true, next79, find79]
    rw [run_bind', show ∀ m, (Go.mark m).run Tryd.prog w = .ok () w from fun _ => rfl]
    dsimp only
    rw [run_bind', Lib.run_countString]
    rfl
  · cases hp
theorem p87 : KOk Tryd.prog 4 tabs 87 k87 := by
  intro args v hp
  unfold k87 at hp
  split at hp
  · rename_i s c
    simp only [Option.some.injEq] at hp
    subst hp
    refine pure_of_same rfl rfl fun w => ?_
    unfold callFunc
    rw [run_bind', show (Go.program).run Tryd.prog w = .ok Tryd.prog w from rfl]
    simp only [Tryd.func87, name87, Bool.false_eq_true, if_false, body87, if_true, next87, find87]
    rw [run_bind', show ∀ m, (Go.mark m).run Tryd.prog w = .ok () w from fun _ => rfl]
    dsimp only
    rw [run_bind', Lib.run_indexByteString]
    rfl
  · cases hp
noncomputable def t14 : Ktab := (79, k79) :: (87, k87) :: t13
theorem t14_ok : TOk Tryd.prog 4 tabs t14 := ⟨p79, p87, t13_ok⟩
noncomputable def env14 : Env := envT t14
set_option maxRecDepth 100000 in
theorem fns14 : fnB Tryd.prog 4 env14 okL = true := by kernel_rfl
theorem ov14_79 (s : ByteArray) (lim : Nat) (σ : AS) : env14.ov 79 [.string s, .int .u8 10] lim σ = some (.int .i64 (Lib.countByte s.data.toList 10), σ) :=
  envK rfl rfl rfl rfl (by unfold t14; rw [pfT_eq]; rfl)
theorem ov14_87 (s : ByteArray) (lim : Nat) (σ : AS) : env14.ov 87 [.string s, .int .u8 10] lim σ = some (.int .i64 (Lib.indexByte s.data.toList 10), σ) :=
  envK rfl rfl rfl rfl (by unfold t14; rw [pfT_ne rfl, pfT_eq]; rfl)

def k71 : List Value → Option Value
  | [.string s, .string c] => bif veq1 (.string c) (.string ⟨#[10]⟩) then some (.int .i64 (Lib.countByte s.data.toList 10)) else none
  | _ => none
theorem p71 : KOk Tryd.prog 4 tabs 71 k71 := by
  intro args v h
  unfold k71 at h
  split at h
  · rename_i s c
    cases hb : veq1 (.string c) (.string ⟨#[10]⟩) with
    | false => rw [hb] at h; cases h
    | true =>
      rw [hb, cond_true] at h
      cases h
      have hc : Value.string c = .string ⟨#[10]⟩ := veq1_eq hb
      cases hc
      exact pureT t14_ok fns14 (n := 100) (v := .int .i64 (Lib.countByte s.data.toList 10)) [(12, .ov (.int .i64 (Lib.countByte s.data.toList 10)))] [(∀ σ, env14.ov 79 [.string s, .int .u8 10] 0 σ = some (.int .i64 (Lib.countByte s.data.toList 10), σ))] (by kernel_rfl) (fun σ => ov14_79 s 0 σ) rfl (.int _ _)
  · cases h
def k72 : List Value → Option Value
  | [.string s, .string c] => bif veq1 (.string c) (.string ⟨#[10]⟩) then some (.int .i64 (Lib.indexByte s.data.toList 10)) else none
  | _ => none
theorem p72 : KOk Tryd.prog 4 tabs 72 k72 := by
  intro args v h
  unfold k72 at h
  split at h
  · rename_i s c
    cases hb : veq1 (.string c) (.string ⟨#[10]⟩) with
    | false => rw [hb] at h; cases h
    | true =>
      rw [hb, cond_true] at h
      cases h
      have hc : Value.string c = .string ⟨#[10]⟩ := veq1_eq hb
      cases hc
      cases hs : ((⟨#[10]⟩ : ByteArray).toList == s.toList) with
      | true =>
        have e : s = ⟨#[10]⟩ := by
          have e := eq_of_beq hs
          rw [ByteArray.toList_eq, ByteArray.toList_eq] at e
          exact ba_ext e.symm
        rw [e]
        exact pureT t14_ok fns14 (n := 100) (v := .int .i64 0) [] [] (by kernel_rfl) trivial rfl (.int _ _)
      | false => exact pureT t14_ok fns14 (n := 100) (v := .int .i64 (Lib.indexByte s.data.toList 10)) [(13, .br false)] [((⟨#[10]⟩ : ByteArray).toList == s.toList) = false] (by kernel_rfl) hs rfl (.int _ _)
  · cases h
noncomputable def t15 : Ktab := (71, k71) :: (72, k72) :: t14
theorem t15_ok : TOk Tryd.prog 4 tabs t15 := ⟨p71, p72, t14_ok⟩
noncomputable def env15 : Env := envT t15
set_option maxRecDepth 100000 in
theorem fns15 : fnB Tryd.prog 4 env15 okL = true := by kernel_rfl
theorem ov15_71 (s : ByteArray) (lim : Nat) (σ : AS) : env15.ov 71 [.string s, .string ⟨#[10]⟩] lim σ = some (.int .i64 (Lib.countByte s.data.toList 10), σ) :=
  envK rfl rfl rfl rfl (by unfold t15; rw [pfT_eq]; rfl)
theorem ov15_72 (s : ByteArray) (lim : Nat) (σ : AS) : env15.ov 72 [.string s, .string ⟨#[10]⟩] lim σ = some (.int .i64 (Lib.indexByte s.data.toList 10), σ) :=
  envK rfl rfl rfl rfl (by unfold t15; rw [pfT_ne rfl, pfT_eq]; rfl)
end Go.Proofs.YtakchekhpeokjaaDoor

/-
  BITBOARD (chapter 05): strings.Split at a line's end, on an open heap.
-/
namespace Go.Proofs.YtakchekhpeokjaaDoor
open Go.Va

def nl : Value := .string ⟨#[10]⟩
noncomputable def body61 : Code := codeOf Tryd.prog 61 [.r, .r, .r, .r, .r, .r, .r, .r, .l, .b, .b]
def T61 (s : ByteArray) (n : Int) (a : Value) (i : Int) (w : Nat → Value) : List Value := fillT 66 [(0, .string s), (1, nl), (2, .int .i64 0), (3, .int .i64 n), (9, a), (10, .int .i64 i)] w
def ad (i : Int) : Int := IntKind.i64.wrap (i + 0)
def ad1 (i : Int) : Int := IntKind.i64.wrap (i + 1)

theorem next61 (s : ByteArray) (n i j : Int) (r m : Nat) (σ σ' : AS) (w : Nat → Value) (h1 : decide (i < n) = true) (h2 : ∀ σ, env15.ov 72 [.string s, nl] 0 σ = some (.int .i64 j, σ)) (h3 : decide (j < 0) = false) (h4 : 0 ≤ ad j ∧ ad j ≤ s.size) (h5 : 0 ≤ i ∧ i < m)
    (h6 : σ.setCells 0 ⟨r, 0 + i.toNat * 1, none⟩ [.string (s.extract 0 (ad j).toNat)] 0 = some σ') (h7 : 0 ≤ ad1 j ∧ ad1 j ≤ s.size) :
    ∃ w', runW Tryd.prog env15 0 (.code ⟨61, none⟩ body61 (T61 s n (Sl r m) i w) []) σ = some (.done .normal (T61 (s.extract (ad1 j).toNat s.size) n (Sl r m) (ad1 i) w') [], σ') :=
  seg 100 [(2, .br true), (3, .ov (.int .i64 j)), (2, .br false), (7, .ok), (0, .ok), (0, .sem undef σ'), (5, .ok)] (m := 66) (js := [0, 1, 2, 3, 9, 10]) (vs := [.string (s.extract (ad1 j).toNat s.size), nl, .int .i64 0, .int .i64 n, Sl r m, .int .i64 (ad1 i)])
    (ob := [decide (i < n) = true, (∀ σ, env15.ov 72 [.string s, nl] 0 σ = some (.int .i64 j, σ)), decide (j < 0) = false, 0 ≤ ad j ∧ ad j ≤ s.size, 0 ≤ i ∧ i < m, σ.setCells 0 ⟨r, 0 + i.toNat * 1, none⟩ [.string (s.extract 0 (ad j).toNat)] 0 = some σ', 0 ≤ ad1 j ∧ ad1 j ≤ s.size]) (by kernel_rfl)
    ⟨h1, h2, h3, h4, h5, h6, h7⟩
theorem end61 (s : ByteArray) (n i : Int) (r m : Nat) (σ : AS) (w : Nat → Value) (h1 : decide (i < n) = false) :
    ∃ w', runW Tryd.prog env15 0 (.code ⟨61, none⟩ body61 (T61 s n (Sl r m) i w) []) σ = some (.done (.exit 0) (T61 s n (Sl r m) i w') [], σ) :=
  seg 100 [(2, .br false)] (m := 66) (js := [0, 1, 2, 3, 9, 10]) (vs := [.string s, nl, .int .i64 0, .int .i64 n, Sl r m, .int .i64 i]) (ob := [decide (i < n) = false]) (by kernel_rfl) h1

def strs (l : List (List UInt8)) : List Value := l.map fun p => .string (str p)
theorem str_of (s : ByteArray) : str s.data.toList = s := by unfold str; exact ba_ext (by simp)
theorem str_data (l : List UInt8) : (str l).data.toList = l := by unfold str; simp
theorem ex_str (s : ByteArray) (a b : Nat) : s.extract a b = str ((s.data.toList.drop a).take (b - a)) := by
  apply ba_ext
  unfold str
  rw [ByteArray.data_extract]
  simp [Array.toList_extract, List.extract_eq_take_drop]
theorem count_none {l : List UInt8} {c : UInt8} (h : Lib.countByte l c = 0) : ∀ b ∈ l, b ≠ c := by
  intro b hb e
  have : c ∈ l := e ▸ hb
  exact absurd h (Nat.ne_of_gt (List.count_pos_iff.2 this))
theorem count_index {l : List UInt8} {c : UInt8} {k : Nat} (h : Lib.countByte l c = k + 1) : ∃ j : Nat, Lib.indexByte l c = j ∧ j < l.length ∧ Lib.countByte (l.drop (j + 1)) c = k := by
  rcases index_cases l c with hi | ⟨j, hj⟩
  · exfalso
    have h0 : Lib.countByte l c = 0 := List.count_eq_zero.2 fun hm => mem_get (Lib.indexByte_none hi) c hm rfl
    omega
  · refine ⟨j, hj, (pcs_index hj).1, ?_⟩
    obtain ⟨h1, h2⟩ := Lib.indexByte_some hj
    have hjl := (pcs_index hj).1
    have hg : l[j] = c := by
      rw [List.getElem?_eq_getElem hjl] at h1
      exact Option.some.inj h1
    have e : l = l.take j ++ c :: l.drop (j + 1) := by
      rw [← hg, ← List.drop_eq_getElem_cons hjl, List.take_append_drop]
    have hp : ∀ b ∈ l.take j, b ≠ c := by
      refine mem_get fun k => ?_
      rw [List.getElem?_take]
      split
      · exact h2 k (by omega)
      · intro h; cases h
    unfold Lib.countByte at h ⊢
    rw [e, List.count_append, List.count_cons_self, List.count_eq_zero.2 fun hm => hp c hm rfl] at h
    omega

theorem loop61 (r m n : Nat) (hm : m = n + 1) (hn : n < 100000) : ∀ (k i : Nat) (s : ByteArray) (cs : List Value) (σ : AS) (w : Nat → Value), i + k = n → s.size < 100000 → Lib.countByte s.data.toList 10 = k → σ.get r = some (.cells cs true (none, some 9) none) → cs.length = m →
    ∃ w' σ' s' cs', runW Tryd.prog env15 0 (.code ⟨61, none⟩ (.loop body61) (T61 s n (Sl r m) i w) []) σ = some (.done (.exit 0) (T61 s' n (Sl r m) n w') [], σ') ∧ σ'.get r = some (.cells cs' true (none, some 9) none) ∧ cs'.length = m ∧ s'.size < 100000 ∧
      cs'.set n (.string s') = cs.take i ++ strs (pcs 10 s.data.toList) ∧ σ'.next = σ.next ∧ ∀ j, j ≠ r → σ'.get j = σ.get j := by
  intro k
  induction k with
  | zero =>
    intro i s cs σ w hi hs hc hg hl
    obtain rfl : i = n := by omega
    obtain ⟨w', h⟩ := end61 s i i r m σ w (decide_eq_false (by omega))
    refine ⟨w', σ, s, cs, loop_out (by intro h; cases h) h, hg, hl, hs, ?_, rfl, fun _ _ => rfl⟩
    rw [pcs_none (count_none hc)]
    refine List.ext_getElem (by simp [strs]; omega) fun j h1 h2 => ?_
    rw [List.getElem_set]
    by_cases hj : i = j
    · subst hj
      rw [if_pos rfl, List.getElem_append_right (by rw [List.length_take]; omega)]
      simp [strs, str_of]
    · rw [List.length_set] at h1
      rw [if_neg hj, List.getElem_append_left (by rw [List.length_take]; omega), List.getElem_take]
  | succ k ih =>
    intro i s cs σ w hi hs hc hg hl
    obtain ⟨j, hj, hjl, hc'⟩ := count_index hc
    have hlen : s.data.toList.length = s.size := by show _ = s.data.size; simp
    have e0 : ad (j : Int) = j := by unfold ad; rw [wrap64 (by omega) (by omega)]; omega
    have e1 : ad1 (j : Int) = ((j + 1 : Nat) : Int) := by unfold ad1; rw [wrap64 (by omega) (by omega)]; rfl
    have e2 : ad1 (i : Int) = ((i + 1 : Nat) : Int) := by unfold ad1; rw [wrap64 (by omega) (by omega)]; rfl
    have hx : s.extract 0 (ad (j : Int)).toNat = str (s.data.toList.take j) := by rw [e0, Int.toNat_natCast, ex_str, List.drop_zero, Nat.sub_zero]
    have hy : s.extract (ad1 (j : Int)).toNat s.size = str (s.data.toList.drop (j + 1)) := by
      rw [e1, Int.toNat_natCast, ex_str, List.take_of_length_le (by rw [List.length_drop]; omega)]
    have hst : σ.setCells 0 ⟨r, 0 + (i : Int).toNat * 1, none⟩ [.string (s.extract 0 (ad (j : Int)).toNat)] 0 = some (σ.put r (some (.cells (cs.set i (.string (str (s.data.toList.take j)))) true (none, some 9) none))) := by
      rw [show 0 + (i : Int).toNat * 1 = i by omega, hx]
      exact setCells1 hg (by omega) (by omega) rfl
    obtain ⟨w1, h⟩ := next61 s n i j r m σ _ w (decide_eq_true (by omega)) (fun σ => by rw [show nl = .string ⟨#[10]⟩ from rfl, ov15_72, hj]) (decide_eq_false (by omega)) (by rw [e0]; omega) (by omega) hst (by rw [e1]; omega)
    rw [hy, e2] at h
    obtain ⟨w', σ', s', cs', h', g1, g2, g3, g4, g5, g6⟩ := ih (i + 1) (str (s.data.toList.drop (j + 1))) (cs.set i (.string (str (s.data.toList.take j)))) _ w1 (by omega)
      (by rw [str_size, List.length_drop]; omega) (by rw [str_data]; exact hc') (get_put_eq rfl) (by rw [List.length_set]; exact hl)
    refine ⟨w', σ', s', cs', loop_next h h', g1, g2, g3, ?_, g5, fun x hx => by rw [g6 x hx, get_put_ne hx]⟩
    rw [g4, str_data, (pcs_index hj).2]
    have et : (cs.set i (.string (str (s.data.toList.take j)))).take (i + 1) = cs.take i ++ [.string (str (s.data.toList.take j))] := by
      rw [List.take_succ_eq_append_getElem (by rw [List.length_set]; omega), List.getElem_set_self, List.take_set_of_le (Nat.le_refl i)]
    rw [et, List.append_assoc]
    rfl
end Go.Proofs.YtakchekhpeokjaaDoor

/-
  BITBOARD (chapter 05): strings.Split at a line's end: the call.
-/
namespace Go.Proofs.YtakchekhpeokjaaDoor
open Go.Va

def w61 (s : ByteArray) (k n m : Int) (r mm : Nat) (j : Nat) : Value := Go.Va.look [(8, .slice none 0 0), (12, .int .i64 (-1)), (13, .bool false), (14, nl), (15, .bool false), (19, .int .i64 (-1)), (20, .bool true), (21, .string s), (22, nl), (23, .int .i64 k), (24, .int .i64 (IntKind.i64.wrap (k + 1))),
  (25, .int .i64 (IntKind.i64.wrap (k + 1))), (26, .string s), (27, .int .i64 s.size), (28, .int .i64 (IntKind.i64.wrap ((s.size : Int) + 1))), (29, .int .i64 m), (30, .int .i64 m), (31, Sl r mm), (32, .int .i64 m), (33, .int .i64 n)] j undef
theorem call61 (s s' : ByteArray) (k n m : Int) (mm : Nat) (σ σ1 σ2 : AS) (w' : Nat → Value) (h1 : ∀ σ, env15.ov 71 [.string s, nl] 0 σ = some (.int .i64 k, σ))
    (h2 : (if IntKind.i64.wrap ((s.size : Int) + 1) < IntKind.i64.wrap (k + 1) then IntKind.i64.wrap ((s.size : Int) + 1) else IntKind.i64.wrap (k + 1)) = m)
    (h3 : runA Tryd.prog 0 (Instr.makeSlice 58 (.int .i64 m) (.int .i64 m)) σ = some (Sl σ.next mm, σ1)) (h4 : IntKind.i64.wrap (m - 1) = n)
    (h5 : runW Tryd.prog env15 0 (.code ⟨61, none⟩ (.loop body61) (T61 s n (Sl σ.next mm) 0 (w61 s k n m σ.next mm)) []) σ1 = some (.done (.exit 0) (T61 s' n (Sl σ.next mm) n w') [], σ2))
    (h6 : 0 ≤ n ∧ n < mm) {σ3 : AS} (h7 : σ2.setCells 0 ⟨σ.next, 0 + n.toNat * 1, none⟩ [.string s'] 0 = some σ3) (h8 : IntKind.i64.wrap (n + 1) = m)
    (h9 : sliceA Tryd.prog 0 58 (Sl σ.next mm) none (some (.int .i64 m)) none σ3 = some (Sl σ.next mm, σ3)) :
    runW Tryd.prog env15 0 (.call 61 [.string s, nl, .int .i64 0, .int .i64 (-1)]) σ = some (.val (Sl σ.next mm), σ3) :=
  runW_of_whole (n := 200) (hs := [(12, .ov (.int .i64 k)), (6, .eq (.int .i64 m)), (2, .sem (Sl σ.next mm) σ1), (2, .eq (.int .i64 n)), (2, .skip (.done (.exit 0) (T61 s' n (Sl σ.next mm) n w') []) σ2), (3, .ok), (0, .sem undef σ3), (2, .eq (.int .i64 m)), (0, .sem (Sl σ.next mm) σ3)])
    (ob := [(∀ σ, env15.ov 71 [.string s, nl] 0 σ = some (.int .i64 k, σ)), Value.int .i64 (if IntKind.i64.wrap ((s.size : Int) + 1) < IntKind.i64.wrap (k + 1) then IntKind.i64.wrap ((s.size : Int) + 1) else IntKind.i64.wrap (k + 1)) = .int .i64 m,
      runA Tryd.prog 0 (Instr.makeSlice 58 (.int .i64 m) (.int .i64 m)) σ = some (Sl σ.next mm, σ1), Value.int .i64 (IntKind.i64.wrap (m - 1)) = .int .i64 n,
      runW Tryd.prog env15 0 (.code ⟨61, none⟩ (.loop body61) (T61 s n (Sl σ.next mm) 0 (w61 s k n m σ.next mm)) []) σ1 = some (.done (.exit 0) (T61 s' n (Sl σ.next mm) n w') [], σ2), 0 ≤ n ∧ n < mm,
      σ2.setCells 0 ⟨σ.next, 0 + n.toNat * 1, none⟩ [.string s'] 0 = some σ3, Value.int .i64 (IntKind.i64.wrap (n + 1)) = .int .i64 m, sliceA Tryd.prog 0 58 (Sl σ.next mm) none (some (.int .i64 m)) none σ3 = some (Sl σ.next mm, σ3)]) (by kernel_rfl)
    ⟨h1, congrArg _ h2, h3, congrArg _ h4, h5, h6, h7, congrArg _ h8, h9⟩

theorem pcs_count (c : UInt8) : ∀ l : List UInt8, (pcs c l).length = Lib.countByte l c + 1
  | [] => rfl
  | b :: l => by
    have ih := pcs_count c l
    unfold Lib.countByte at ih ⊢
    by_cases h : b = c
    · subst h
      rw [pcs_sep, List.count_cons_self, List.length_cons, ih]
    · cases hp : pcs c l with
      | nil => exact absurd hp (pcs_ne c l)
      | cons p ps =>
        rw [pcs_cons_ne h hp, List.count_cons_of_ne h]
        rw [hp] at ih
        exact ih
theorem call41 (s : ByteArray) (k : Nat) (σ σ' : AS) (h : applyA Tryd.prog env15 (runW Tryd.prog env15) 0 (.func (.func 61) #[] #[]) [.string s, nl, .int .i64 0, .int .i64 (-1)] σ = some (Sl σ.next k, σ')) :
    runW Tryd.prog env15 0 (.call 41 [.string s, nl]) σ = some (.val (Sl σ.next k), σ') :=
  runW_of_whole (n := 100) (hs := [(3, .sem (Sl σ.next k) σ')]) (ob := [applyA Tryd.prog env15 (runW Tryd.prog env15) 0 (.func (.func 61) #[] #[]) [.string s, nl, .int .i64 0, .int .i64 (-1)] σ = some (Sl σ.next k, σ')]) (by kernel_rfl) h
theorem i9 : ∃ i, Tryd.prog.info? 9 = some i ∧ i.size = 1 ∧ i.bytes = 16 := by
  refine ⟨_, rfl, ?_, ?_⟩ <;> kernel_rfl
theorem zero9 (σ : AS) : runA Tryd.prog 0 (zeroValue 9) σ = some (.string ⟨#[]⟩, σ) := by kernel_rfl
theorem split_o (s : ByteArray) (hs : s.size < 90000) (σ : AS) : ∃ σ', runW Tryd.prog env15 0 (.call 41 [.string s, nl]) σ = some (.val (Sl σ.next (pcs 10 s.data.toList).length), σ') ∧
    σ'.get σ.next = some (.cells (strs (pcs 10 s.data.toList)) true (none, some 9) none) ∧ σ'.next = σ.next + 1 ∧ ∀ j, j < σ.next → σ'.get j = σ.get j := by
  have hk := pcs_count 10 s.data.toList
  have hlen : s.data.toList.length = s.size := by show _ = s.data.size; simp
  have hkl : Lib.countByte s.data.toList 10 ≤ s.size := by rw [← hlen]; exact List.count_le_length
  generalize hkk : Lib.countByte s.data.toList 10 = k at hk hkl
  rw [hk]
  obtain ⟨i, hi, h1, h2⟩ := i9
  have hmk := makeSlice_of (P := Tryd.prog) (lim := 0) (σ := σ) (n := k + 1) (z := .string ⟨#[]⟩) Tryd.underlying58 hi h1 (by rw [h2]; omega) (by omega) (by omega) (zero9 σ) rfl
  obtain ⟨w', σ2, s', cs', h5, g1, g2, _, g4, g5, g6⟩ := loop61 σ.next (k + 1) k rfl (by omega) k 0 s (List.replicate (k + 1) (.string ⟨#[]⟩)) (σ.push (.cells (List.replicate (k + 1) (.string ⟨#[]⟩)) true (none, some 9) none))
    (w61 s k k ((k + 1 : Nat) : Int) σ.next (k + 1)) (by omega) (by omega) hkk (get_push_eq rfl) (by simp)
  rw [show ((0 : Nat) : Int) = 0 from rfl] at h5
  have h7 : σ2.setCells 0 ⟨σ.next, 0 + (k : Int).toNat * 1, none⟩ [.string s'] 0 = some (σ2.put σ.next (some (.cells (strs (pcs 10 s.data.toList)) true (none, some 9) none))) := by
    rw [show 0 + (k : Int).toNat * 1 = k by omega, setCells1 g1 (by omega) (by omega) rfl, g4]
    rfl
  have hsl : sliceA Tryd.prog 0 58 (Sl σ.next (k + 1)) none (some (.int .i64 ((k + 1 : Nat) : Int))) none (σ2.put σ.next (some (.cells (strs (pcs 10 s.data.toList)) true (none, some 9) none))) = some (Sl σ.next (k + 1), σ2.put σ.next (some (.cells (strs (pcs 10 s.data.toList)) true (none, some 9) none))) :=
    slice_row Tryd.underlying58 hi (get_put_eq rfl) (by omega) (by omega)
  have hw : IntKind.i64.wrap ((k : Int) + 1) = ((k + 1 : Nat) : Int) := by rw [wrap64 (by omega) (by omega)]; rfl
  have hw2 : IntKind.i64.wrap ((s.size : Int) + 1) = (s.size : Int) + 1 := wrap64 (by omega) (by omega)
  have hw3 : IntKind.i64.wrap (((k + 1 : Nat) : Int) - 1) = (k : Int) := by rw [wrap64 (by omega) (by omega)]; omega
  have := call61 s s' k k ((k + 1 : Nat) : Int) (k + 1) σ _ σ2 w' (fun σ => by rw [show nl = .string ⟨#[10]⟩ from rfl, ov15_71, hkk]) (by rw [hw, hw2, if_neg (by omega)]) hmk hw3 h5 (by omega) h7 hw hsl
  refine ⟨_, call41 s (k + 1) σ _ (app_of rfl this), get_put_eq rfl, by rw [next_put, g5]; rfl, fun j hj => ?_⟩
  rw [get_put_ne (by omega), g6 j (by omega), get_push_ne (by omega)]
end Go.Proofs.YtakchekhpeokjaaDoor

/-
  BITBOARD (chapter 05): Parse: its rounds.
-/
namespace Go.Proofs.YtakchekhpeokjaaDoor
open Go.Va

noncomputable def body40 : Code := codeOf Tryd.prog 40 [.r, .r, .r, .l, .r, .b, .b]
noncomputable def body40i : Code := codeOf Tryd.prog 40 [.r, .r, .r, .l, .r, .b, .b, .r, .r, .l, .b, .r, .r, .b, .b]
def Slc (r h k : Nat) : Value := .slice (some ⟨r, 0, none⟩) h k
def T40 (s : ByteArray) (a : Int) (v : Value) (h i : Int) (w : Nat → Value) : List Value := fillT 47 [(0, .string s), (4, .int .u64 a), (15, v), (16, .int .i64 h), (17, .int .i64 i)] w
def T40i (s : ByteArray) (a : Int) (v : Value) (h i : Int) (l : ByteArray) (q f : Int) (w : Nat → Value) : List Value := fillT 47 [(0, .string s), (4, .int .u64 a), (6, .int .i64 i), (7, .string l), (15, v), (16, .int .i64 h), (17, .int .i64 i), (24, .int .i64 q), (25, .int .i64 f)] w
def pl40 (i f : Int) : Int := IntKind.i64.wrap (IntKind.i64.wrap (8 * IntKind.i64.wrap (7 - i)) + f)
def chr (s : ByteArray) (i : Int) : Int := (s.data.toList.getD i.toNat 0).toNat
def inc (i : Int) : Int := IntKind.i64.wrap (i + 1)

theorem on40 (s : ByteArray) (a h i : Int) (r m k : Nat) (l : ByteArray) (q f : Int) (σ : AS) (w : Nat → Value) (h1 : decide (f < q) = true) (h2 : 0 ≤ f ∧ f < l.size) (h3 : (chr l f == 120) = true) (h4 : 0 ≤ pl40 i f) :
    ∃ w', runW Tryd.prog env15 0 (.code ⟨40, none⟩ body40i (T40i s a (Slc r m k) h i l q f w) []) σ = some (.done .normal (T40i s (orS a (bitS (pl40 i f))) (Slc r m k) h i l q (inc f) w') [], σ) :=
  seg 100 [(0, .br true), (5, .ok), (0, .br true), (10, .ok)] (m := 47) (js := [0, 4, 6, 7, 15, 16, 17, 24, 25])
    (vs := [.string s, .int .u64 (orS a (bitS (pl40 i f))), .int .i64 i, .string l, Slc r m k, .int .i64 h, .int .i64 i, .int .i64 q, .int .i64 (inc f)])
    (ob := [decide (f < q) = true, 0 ≤ f ∧ f < l.size, (chr l f == 120) = true, 0 ≤ pl40 i f]) (by kernel_rfl) ⟨h1, h2, h3, h4⟩
theorem off40 (s : ByteArray) (a h i : Int) (r m k : Nat) (l : ByteArray) (q f : Int) (σ : AS) (w : Nat → Value) (h1 : decide (f < q) = true) (h2 : 0 ≤ f ∧ f < l.size) (h3 : (chr l f == 120) = false) :
    ∃ w', runW Tryd.prog env15 0 (.code ⟨40, none⟩ body40i (T40i s a (Slc r m k) h i l q f w) []) σ = some (.done .normal (T40i s a (Slc r m k) h i l q (inc f) w') [], σ) :=
  seg 100 [(0, .br true), (5, .ok), (0, .br false)] (m := 47) (js := [0, 4, 6, 7, 15, 16, 17, 24, 25])
    (vs := [.string s, .int .u64 a, .int .i64 i, .string l, Slc r m k, .int .i64 h, .int .i64 i, .int .i64 q, .int .i64 (inc f)])
    (ob := [decide (f < q) = true, 0 ≤ f ∧ f < l.size, (chr l f == 120) = false]) (by kernel_rfl) ⟨h1, h2, h3⟩
theorem end40i (s : ByteArray) (a h i : Int) (r m k : Nat) (l : ByteArray) (q f : Int) (σ : AS) (w : Nat → Value) (h1 : decide (f < q) = false) :
    ∃ w', runW Tryd.prog env15 0 (.code ⟨40, none⟩ body40i (T40i s a (Slc r m k) h i l q f w) []) σ = some (.done (.exit 2) (T40i s a (Slc r m k) h i l q f w') [], σ) :=
  seg 100 [(0, .br false)] (m := 47) (js := [0, 4, 6, 7, 15, 16, 17, 24, 25]) (vs := [.string s, .int .u64 a, .int .i64 i, .string l, Slc r m k, .int .i64 h, .int .i64 i, .int .i64 q, .int .i64 f])
    (ob := [decide (f < q) = false]) (by kernel_rfl) h1
def w40 (l : ByteArray) (r i : Nat) (q : Int) (w : Nat → Value) (j : Nat) : Value := Go.Va.look [(18, .bool true), (19, .int .i64 i), (20, Pf r i), (21, .string l), (22, .string l), (23, .int .i64 l.size)] j (w j)
where Pf (b k : Nat) : Value := .pointer (some ⟨b, 0 + (k : Int).toNat * 1, none⟩)
theorem turn40 (s : ByteArray) (a a' h : Int) (i r m k : Nat) (l : ByteArray) (q f' : Int) (σ : AS) (w w1 : Nat → Value) (h1 : decide ((i : Int) < h) = true) (h2 : 0 ≤ (i : Int) ∧ (i : Int) < m) (h3 : σ.cell? ⟨r, 0 + (i : Int).toNat * 1, none⟩ = some (.string l))
    (h4 : (if (8 : Int) < (l.size : Int) then 8 else (l.size : Int)) = q)
    (h5 : runW Tryd.prog env15 0 (.code ⟨40, none⟩ (.loop body40i) (T40i s a (Slc r m k) h i l q 0 (w40 l r i q w)) []) σ = some (.done (.exit 2) (T40i s a' (Slc r m k) h i l q f' w1) [], σ)) :
    ∃ w', runW Tryd.prog env15 0 (.code ⟨40, none⟩ body40 (T40 s a (Slc r m k) h i w) []) σ = some (.done .normal (T40 s a' (Slc r m k) h (inc i) w') [], σ) :=
  seg 100 [(0, .br true), (2, .ok), (0, .is (.string l)), (4, .eq (.int .i64 q)), (1, .skip (.done (.exit 2) (T40i s a' (Slc r m k) h i l q f' w1) []) σ)] (m := 47) (js := [0, 4, 15, 16, 17])
    (vs := [.string s, .int .u64 a', Slc r m k, .int .i64 h, .int .i64 (inc i)])
    (ob := [decide ((i : Int) < h) = true, 0 ≤ (i : Int) ∧ (i : Int) < m, σ.cell? ⟨r, 0 + (i : Int).toNat * 1, none⟩ = some (.string l), Value.int .i64 (if (8 : Int) < (l.size : Int) then 8 else (l.size : Int)) = .int .i64 q,
      runW Tryd.prog env15 0 (.code ⟨40, none⟩ (.loop body40i) (T40i s a (Slc r m k) h i l q 0 (w40 l r i q w)) []) σ = some (.done (.exit 2) (T40i s a' (Slc r m k) h i l q f' w1) [], σ)]) (by kernel_rfl) ⟨h1, h2, h3, congrArg _ h4, h5⟩
theorem end40 (s : ByteArray) (a h i : Int) (r m k : Nat) (σ : AS) (w : Nat → Value) (h1 : decide (i < h) = false) :
    ∃ w', runW Tryd.prog env15 0 (.code ⟨40, none⟩ body40 (T40 s a (Slc r m k) h i w) []) σ = some (.done (.exit 0) (T40 s a (Slc r m k) h i w') [], σ) :=
  seg 100 [(0, .br false)] (m := 47) (js := [0, 4, 15, 16, 17]) (vs := [.string s, .int .u64 a, Slc r m k, .int .i64 h, .int .i64 i]) (ob := [decide (i < h) = false]) (by kernel_rfl) h1

def wc40 (s : ByteArray) (r k : Nat) (h : Int) (j : Nat) : Value := Go.Va.look [(2, .int .u64 0), (3, .int .i64 0), (5, Sl r k), (9, .string s), (10, Sl r k), (11, Sl r k), (12, Sl r k), (13, .int .i64 k), (14, .int .i64 h)] j undef
theorem call40_ok (s : ByteArray) (a h i' : Int) (r m k : Nat) (t : ByteArray) (σ0 σ : AS) (w1 : Nat → Value) (h1 : applyA Tryd.prog env15 (runW Tryd.prog env15) 0 (.func (.func 41) #[] #[]) [.string s, nl] σ0 = some (Sl r k, σ))
    (h2 : (if (8 : Int) < (k : Int) then 8 else (k : Int)) = h) (h3 : sliceA Tryd.prog 0 58 (Sl r k) none (some (.int .i64 h)) none σ = some (Slc r m k, σ)) (hm : (m : Int) = h)
    (h4 : runW Tryd.prog env15 0 (.code ⟨40, none⟩ (.loop body40) (T40 s 0 (Slc r m k) m 0 (wc40 s r k h)) []) σ = some (.done (.exit 0) (T40 s a (Slc r m k) m i' w1) [], σ))
    (h5 : ∀ σ, env15.ov 32 [.int .u64 a] 0 σ = some (.string t, σ)) (h6 : (!(t.toList == s.toList)) = false) :
    runW Tryd.prog env15 0 (.call 40 [.string s]) σ0 = some (.val (.tuple #[.int .u64 a, .int .i64 0]), σ) :=
  runW_of_whole (n := 200) (hs := [(4, .sem (Sl r k) σ), (4, .eq (.int .i64 h)), (0, .sem (Slc r m k) σ), (2, .skip (.done (.exit 0) (T40 s a (Slc r m k) m i' w1) []) σ), (1, .ov (.string t)), (1, .br false)])
    (ob := [applyA Tryd.prog env15 (runW Tryd.prog env15) 0 (.func (.func 41) #[] #[]) [.string s, nl] σ0 = some (Sl r k, σ), Value.int .i64 (if (8 : Int) < (k : Int) then 8 else (k : Int)) = .int .i64 h, sliceA Tryd.prog 0 58 (Sl r k) none (some (.int .i64 h)) none σ = some (Slc r m k, σ),
      runW Tryd.prog env15 0 (.code ⟨40, none⟩ (.loop body40) (T40 s 0 (Slc r m k) m 0 (wc40 s r k h)) []) σ = some (.done (.exit 0) (T40 s a (Slc r m k) m i' w1) [], σ), (∀ σ, env15.ov 32 [.int .u64 a] 0 σ = some (.string t, σ)), (!(t.toList == s.toList)) = false]) (by kernel_rfl)
    ⟨h1, congrArg _ h2, h3, h4, h5, h6⟩
theorem call40_no (s : ByteArray) (a h i' : Int) (r m k : Nat) (t : ByteArray) (σ0 σ : AS) (w1 : Nat → Value) (h1 : applyA Tryd.prog env15 (runW Tryd.prog env15) 0 (.func (.func 41) #[] #[]) [.string s, nl] σ0 = some (Sl r k, σ))
    (h2 : (if (8 : Int) < (k : Int) then 8 else (k : Int)) = h) (h3 : sliceA Tryd.prog 0 58 (Sl r k) none (some (.int .i64 h)) none σ = some (Slc r m k, σ)) (hm : (m : Int) = h)
    (h4 : runW Tryd.prog env15 0 (.code ⟨40, none⟩ (.loop body40) (T40 s 0 (Slc r m k) m 0 (wc40 s r k h)) []) σ = some (.done (.exit 0) (T40 s a (Slc r m k) m i' w1) [], σ))
    (h5 : ∀ σ, env15.ov 32 [.int .u64 a] 0 σ = some (.string t, σ)) (h6 : (!(t.toList == s.toList)) = true) :
    runW Tryd.prog env15 0 (.call 40 [.string s]) σ0 = some (.val (.tuple #[.int .u64 0, .int .i64 8]), σ) :=
  runW_of_whole (n := 200) (hs := [(4, .sem (Sl r k) σ), (4, .eq (.int .i64 h)), (0, .sem (Slc r m k) σ), (2, .skip (.done (.exit 0) (T40 s a (Slc r m k) m i' w1) []) σ), (1, .ov (.string t)), (1, .br true)])
    (ob := [applyA Tryd.prog env15 (runW Tryd.prog env15) 0 (.func (.func 41) #[] #[]) [.string s, nl] σ0 = some (Sl r k, σ), Value.int .i64 (if (8 : Int) < (k : Int) then 8 else (k : Int)) = .int .i64 h, sliceA Tryd.prog 0 58 (Sl r k) none (some (.int .i64 h)) none σ = some (Slc r m k, σ),
      runW Tryd.prog env15 0 (.code ⟨40, none⟩ (.loop body40) (T40 s 0 (Slc r m k) m 0 (wc40 s r k h)) []) σ = some (.done (.exit 0) (T40 s a (Slc r m k) m i' w1) [], σ), (∀ σ, env15.ov 32 [.int .u64 a] 0 σ = some (.string t, σ)), (!(t.toList == s.toList)) = true]) (by kernel_rfl)
    ⟨h1, congrArg _ h2, h3, h4, h5, h6⟩
end Go.Proofs.YtakchekhpeokjaaDoor

/-
  BITBOARD (chapter 05): Parse.
-/
namespace Go.Proofs.YtakchekhpeokjaaDoor
open Go.Va

/-- Is there an 'x' at the place of the square j, in these lines? -/
def ch (ls : List (List UInt8)) (j : Nat) : Bool := ((ls[7 - j / 8]?).bind fun l => l[j % 8]?) == some 120
/-- The set has the squares of the first n lines, and of the first f places of the next. -/
def Q (ls : List (List UInt8)) (n f : Nat) (y : BitVec 64) : Prop := ∀ j, j < 64 → y.getLsbD j = (ch ls j && (decide (7 - j / 8 < n) || (decide (7 - j / 8 = n) && decide (j % 8 < f))))

theorem Q_zero (ls : List (List UInt8)) : Q ls 0 0 0#64 := by
  intro j hj
  rw [BitVec.getLsbD_zero]
  simp
theorem pl_eq {i f : Nat} (hi : i < 8) (hf : f < 8) : pl40 i f = ((8 * (7 - i) + f : Nat) : Int) := by
  unfold pl40
  rw [wrap64 (n := 7 - (i : Int)) (by omega) (by omega), wrap64 (n := 8 * (7 - (i : Int))) (by omega) (by omega), wrap64 (by omega) (by omega)]
  omega
theorem bit_one {j k : Nat} (hj : j < 64) : (1#64 <<< k).getLsbD j = decide (j = k) := by
  rw [BitVec.getLsbD_shiftLeft, BitVec.getLsbD_one]
  by_cases e : j = k
  · subst e; simp [hj]
  · by_cases h2 : j < k
    · simp [h2, e]
    · have h3 : j - k ≠ 0 := by omega
      simp [h3, e]
theorem Q_on {ls : List (List UInt8)} {i f : Nat} {y : BitVec 64} {l : List UInt8} (h : Q ls i f y) (hi : i < 8) (hf : f < 8) (hl : ls[i]? = some l) (hc : l[f]? = some 120) : Q ls i (f + 1) (y ||| 1#64 <<< (8 * (7 - i) + f)) := by
  intro j hj
  rw [BitVec.getLsbD_or, h j hj, bit_one hj]
  by_cases e : j = 8 * (7 - i) + f
  · have e1 : 7 - j / 8 = i := by omega
    have e2 : j % 8 = f := by omega
    have hch : ch ls j = true := by unfold ch; rw [e1, e2, hl, Option.bind_some, hc]; rfl
    rw [hch, e1, e2, decide_eq_true e]
    simp
  · rw [decide_eq_false e, Bool.or_false]
    congr 2
    by_cases e1 : 7 - j / 8 = i
    · have : j % 8 ≠ f := by omega
      have e3 : decide (j % 8 < f) = decide (j % 8 < f + 1) := by rw [decide_eq_decide]; omega
      rw [e3]
    · rw [decide_eq_false e1, Bool.false_and, Bool.false_and]
theorem Q_off {ls : List (List UInt8)} {i f : Nat} {y : BitVec 64} {l : List UInt8} (h : Q ls i f y) (hi : i < 8) (hl : ls[i]? = some l) (hc : l[f]? ≠ some 120) : Q ls i (f + 1) y := by
  intro j hj
  rw [h j hj]
  by_cases e : 7 - j / 8 = i ∧ j % 8 = f
  · have hch : ch ls j = false := by
      unfold ch
      rw [e.1, e.2, hl, Option.bind_some]
      exact beq_eq_false_iff_ne.2 hc
    rw [hch]; rfl
  · congr 2
    by_cases e1 : 7 - j / 8 = i
    · have e3 : decide (j % 8 < f) = decide (j % 8 < f + 1) := by rw [decide_eq_decide]; omega
      rw [e3]
    · rw [decide_eq_false e1, Bool.false_and, Bool.false_and]
theorem Q_line {ls : List (List UInt8)} {i q : Nat} {y : BitVec 64} {l : List UInt8} (h : Q ls i q y) (hl : ls[i]? = some l) (hq : q = min l.length 8) : Q ls (i + 1) 0 y := by
  intro j hj
  rw [h j hj]
  cases hch : ch ls j with
  | false => rfl
  | true =>
    rw [Bool.true_and, Bool.true_and]
    by_cases e1 : 7 - j / 8 = i
    · have hlt : j % 8 < l.length := by
        unfold ch at hch
        rw [e1, hl, Option.bind_some] at hch
        have := eq_of_beq hch
        by_cases hlt : j % 8 < l.length
        · exact hlt
        · rw [List.getElem?_eq_none (by omega)] at this; cases this
      rw [e1, decide_eq_true (show j % 8 < q by omega), decide_eq_true (show i < i + 1 by omega)]
      simp
    · rw [decide_eq_false e1, Bool.false_and, Bool.or_false]
      have : decide (7 - j / 8 < i) = decide (7 - j / 8 < i + 1) := by rw [decide_eq_decide]; omega
      rw [this]; simp
theorem Q_all {ls : List (List UInt8)} {n : Nat} {y : BitVec 64} (h : Q ls n 0 y) (hn : n = min ls.length 8) : ∀ j, j < 64 → y.getLsbD j = ch ls j := by
  intro j hj
  rw [h j hj]
  cases hch : ch ls j with
  | false => rfl
  | true =>
    have : 7 - j / 8 < ls.length := by
      unfold ch at hch
      have h2 := eq_of_beq hch
      by_cases hlt : 7 - j / 8 < ls.length
      · exact hlt
      · rw [List.getElem?_eq_none (by omega)] at h2; cases h2
    rw [decide_eq_true (show 7 - j / 8 < n by omega)]; rfl

/-! ## The lines of a text -/

theorem row_no (x : BitVec 64) (r f : Nat) : ∀ b ∈ rowB x r f, b ≠ 10 := by
  intro b hb
  obtain ⟨j, _, rfl⟩ := List.mem_map.1 hb
  cases x.getLsbD (8 * r + j) <;> decide
theorem top_pcs (x : BitVec 64) (l : List UInt8) : ∀ k, pcs 10 (topB x k ++ l) = (List.range k).map (fun i => rowB x (7 - i) 8) ++ pcs 10 l
  | 0 => rfl
  | k + 1 => by
    rw [topB_succ, List.append_assoc, List.append_assoc, top_pcs x _ k, List.range_succ, List.map_append, List.append_assoc, show [10] ++ l = 10 :: l from rfl, pcs_cut (row_no x (7 - k) 8)]
    rfl
theorem text_ch (x : BitVec 64) (j : Nat) (hj : j < 64) : ch (pcs 10 (topB x 8)) j = x.getLsbD j := by
  have := top_pcs x [] 8
  rw [List.append_nil] at this
  rw [this]
  unfold ch
  have hi : 7 - j / 8 < 8 := by omega
  have e1 : ((List.range 8).map (fun i => rowB x (7 - i) 8) ++ pcs 10 [])[7 - j / 8]? = some (rowB x (7 - (7 - j / 8)) 8) := by
    rw [List.getElem?_append_left (by simp; omega), List.getElem?_map, List.getElem?_range hi]; rfl
  rw [e1, Option.bind_some]
  have e2 : (rowB x (7 - (7 - j / 8)) 8)[j % 8]? = some (dotx (x.getLsbD j)) := by
    unfold rowB
    rw [List.getElem?_map, List.getElem?_range (by omega)]
    show some (dotx (x.getLsbD (8 * (7 - (7 - j / 8)) + j % 8))) = _
    rw [show 8 * (7 - (7 - j / 8)) + j % 8 = j by omega]
  rw [e2]
  cases x.getLsbD j <;> rfl
theorem textS_data (x : BitVec 64) : (textS x).data.toList = topB x 8 := by unfold textS; rw [str_data]
theorem text_inj {x y : BitVec 64} (h : textS x = textS y) : x = y := by
  refine BitVec.eq_of_getLsbD_eq fun j hj => ?_
  rw [← text_ch x j hj, ← text_ch y j hj, ← textS_data, ← textS_data, h]

open Classical in
/-- What a text is decoded to. -/
noncomputable def pV (s : ByteArray) : Value := if h : ∃ x, textS x = s then .tuple #[.int .u64 (u (Classical.choose h)), .int .i64 0] else .tuple #[.int .u64 0, .int .i64 8]
theorem pV_text (x : BitVec 64) : pV (textS x) = .tuple #[.int .u64 (u x), .int .i64 0] := by
  have h : ∃ y, textS y = textS x := ⟨x, rfl⟩
  unfold pV
  rw [dif_pos h, text_inj (Classical.choose_spec h)]
theorem pV_none {s : ByteArray} (h : ¬ ∃ x, textS x = s) : pV s = .tuple #[.int .u64 0, .int .i64 8] := by
  unfold pV
  rw [dif_neg h]
theorem pV_PF (s : ByteArray) : PF (pV s) := by
  by_cases h : ∃ x, textS x = s
  · obtain ⟨x, rfl⟩ := h
    rw [pV_text]; exact PF_pair (.int _ _) (.int _ _)
  · rw [pV_none h]; exact PF_pair (.int _ _) (.int _ _)

/-! ## The rounds -/

theorem chr_eq (s : ByteArray) {i : Nat} (h : i < s.data.toList.length) (c : UInt8) (n : Int) (hn : (c.toNat : Int) = n) : (chr s i == n) = (s.data.toList[i] == c) := by
  unfold chr
  rw [Int.toNat_natCast, List.getD_eq_getElem?_getD, List.getElem?_eq_getElem h, Option.getD_some]
  refine Bool.eq_iff_iff.2 ?_
  rw [beq_iff_eq, beq_iff_eq]
  constructor
  · intro e
    exact UInt8.toNat_inj.1 (by have : (s.data.toList[i].toNat : Int) = n := e; omega)
  · intro e; rw [e]; exact hn
theorem loop40i (s : ByteArray) (h : Int) (r m k i : Nat) (hi : i < 8) (ls : List (List UInt8)) (l : ByteArray) (hl : ls[i]? = some l.data.toList) (q : Nat) (hq : q = min l.size 8) (σ : AS) : ∀ (d f : Nat) (y : BitVec 64) (w : Nat → Value), f + d = q → Q ls i f y →
    ∃ y' w', runW Tryd.prog env15 0 (.code ⟨40, none⟩ (.loop body40i) (T40i s (u y) (Slc r m k) h i l q f w) []) σ = some (.done (.exit 2) (T40i s (u y') (Slc r m k) h i l q q w') [], σ) ∧ Q ls i q y' := by
  have hlen : l.data.toList.length = l.size := by show _ = l.data.size; simp
  intro d
  induction d with
  | zero =>
    intro f y w hf hQ
    obtain rfl : f = q := by omega
    obtain ⟨w', h1⟩ := end40i s (u y) h i r m k l f f σ w (decide_eq_false (by omega))
    exact ⟨y, w', loop_out (by intro h; cases h) h1, hQ⟩
  | succ d ih =>
    intro f y w hf hQ
    have hfl : f < l.data.toList.length := by omega
    have e1 : inc (f : Int) = ((f + 1 : Nat) : Int) := by unfold inc; rw [wrap64 (by omega) (by omega)]; rfl
    have hch := chr_eq l hfl 120 120 rfl
    cases hc : l.data.toList[f] == 120 with
    | true =>
      rw [hc] at hch
      have hpl := pl_eq hi (show f < 8 by omega)
      obtain ⟨w1, h1⟩ := on40 s (u y) h i r m k l q f σ w (decide_eq_true (by omega)) (by omega) hch (by rw [hpl]; omega)
      rw [e1, hpl, bitS_u _ (by omega) (by omega), Int.toNat_natCast, orS_u] at h1
      have hQ1 := Q_on hQ hi (show f < 8 by omega) hl (by rw [List.getElem?_eq_getElem hfl, eq_of_beq hc])
      obtain ⟨y', w', h2, hQ'⟩ := ih (f + 1) _ w1 (by omega) hQ1
      exact ⟨y', w', loop_next h1 h2, hQ'⟩
    | false =>
      rw [hc] at hch
      obtain ⟨w1, h1⟩ := off40 s (u y) h i r m k l q f σ w (decide_eq_true (by omega)) (by omega) hch
      rw [e1] at h1
      have hQ1 := Q_off (f := f) hQ hi hl (by rw [List.getElem?_eq_getElem hfl]; intro e; rw [Option.some.inj e] at hc; cases hc)
      obtain ⟨y', w', h2, hQ'⟩ := ih (f + 1) _ w1 (by omega) hQ1
      exact ⟨y', w', loop_next h1 h2, hQ'⟩
theorem strs_get (ls : List (List UInt8)) {i : Nat} {p : List UInt8} (h : ls[i]? = some p) : (strs ls)[i]? = some (.string (str p)) := by
  unfold strs; rw [List.getElem?_map, h]; rfl
theorem loop40 (s : ByteArray) (r k m : Nat) (ls : List (List UInt8)) (hm : m = min ls.length 8) (σ : AS) (hg : σ.get r = some (.cells (strs ls) true (none, some 9) none)) (hsz : ∀ p ∈ ls, p.length < 100000) : ∀ (d i : Nat) (y : BitVec 64) (w : Nat → Value), i + d = m → Q ls i 0 y →
    ∃ y' w', runW Tryd.prog env15 0 (.code ⟨40, none⟩ (.loop body40) (T40 s (u y) (Slc r m k) m i w) []) σ = some (.done (.exit 0) (T40 s (u y') (Slc r m k) m m w') [], σ) ∧ Q ls m 0 y' := by
  intro d
  induction d with
  | zero =>
    intro i y w hi hQ
    obtain rfl : i = m := by omega
    obtain ⟨w', h1⟩ := end40 s (u y) i i r i k σ w (decide_eq_false (by omega))
    exact ⟨y, w', loop_out (by intro h; cases h) h1, hQ⟩
  | succ d ih =>
    intro i y w hi hQ
    have hil : i < ls.length := by omega
    have hl : ls[i]? = some ls[i] := List.getElem?_eq_getElem hil
    have hlm := hsz _ (List.getElem_mem hil)
    have hl' : ls[i]? = some (str ls[i]).data.toList := by rw [str_data]; exact hl
    have e1 : inc (i : Int) = ((i + 1 : Nat) : Int) := by unfold inc; rw [wrap64 (by omega) (by omega)]; rfl
    have hss : (str ls[i]).size = ls[i].length := str_size _
    obtain ⟨y1, w2, h2, hQ1⟩ := loop40i s m r m k i (by omega) ls (str ls[i]) hl' (min (str ls[i]).size 8) rfl σ (min (str ls[i]).size 8) 0 y (w40 (str ls[i]) r i ((min (str ls[i]).size 8 : Nat) : Int) w) (by omega) hQ
    obtain ⟨w1, h1⟩ := turn40 s (u y) (u y1) m i r m k (str ls[i]) ((min (str ls[i]).size 8 : Nat) : Int) _ σ w w2 (decide_eq_true (by omega)) (by omega)
      (by rw [show 0 + (i : Int).toNat * 1 = i by omega]; exact cell_of hg (strs_get ls hl)) (by split <;> omega) h2
    rw [e1] at h1
    obtain ⟨y', w', h3, hQ'⟩ := ih (i + 1) y1 w1 (by omega) (Q_line hQ1 hl' (by rw [str_data, ← hss]))
    exact ⟨y', w', loop_next h1 h3, hQ'⟩
theorem pcs_short (c : UInt8) : ∀ (l : List UInt8), ∀ p ∈ pcs c l, p.length ≤ l.length
  | [], p, hp => by
    rw [show pcs c [] = [[]] from rfl, List.mem_singleton] at hp
    rw [hp]; simp
  | b :: l, p, hp => by
    by_cases h : b = c
    · subst h
      rw [pcs_sep] at hp
      rcases List.mem_cons.1 hp with rfl | hp
      · simp
      · have := pcs_short b l p hp; simp; omega
    · cases e : pcs c l with
      | nil => exact absurd e (pcs_ne c l)
      | cons p1 ps =>
        rw [pcs_cons_ne h e] at hp
        have ih := pcs_short c l
        rw [e] at ih
        rcases List.mem_cons.1 hp with rfl | hp
        · have := ih p1 (List.mem_cons_self ..); simp; omega
        · have := ih p (List.mem_cons_of_mem _ hp); simp; omega
theorem ov15_32 (x : BitVec 64) (lim : Nat) (σ : AS) : env15.ov 32 [.int .u64 (u x)] lim σ = some (.string (textS x), σ) :=
  envK rfl rfl rfl rfl (by unfold t15 t14 t13; iterate 12 rw [pfT_ne rfl]
                           rw [pfT_eq]; exact kU_u (fun x => .string (textS x)) x)
theorem ov15_33 (x : BitVec 64) (lim : Nat) (σ : AS) : env15.ov 33 [.int .u64 (u x)] lim σ = some (.string (textS x), σ) :=
  envK rfl rfl rfl rfl (by unfold t15 t14 t13; iterate 13 rw [pfT_ne rfl]
                           rw [pfT_eq]; exact kU_u (fun x => .string (textS x)) x)
theorem pureR {l : Ktab} (hl : TOk Tryd.prog 4 tabs l) (hFn : fnB Tryd.prog 4 (envT l) okL = true) {f : FuncId} {args : List Value} {v : Value} {σ' : AS}
    (hr : runW Tryd.prog (envT l) 0 (.call f args) (base0 4 tabs) = some (.val v, σ')) (hu : strip v = v) (hv : PF v) : Pure Tryd.prog 4 tabs f args v :=
  topW zeroOk mixed rfl (mix_good _ _) (mix_ok fun f args v _ h => pfT_pure hl f args v h) (fnOk_of rfl hFn) hr hu hv
theorem p40 (s : ByteArray) (hs : s.size < 90000) : Pure Tryd.prog 4 tabs 40 [.string s] (pV s) := by
  obtain ⟨σ, h1, hg, _, _⟩ := split_o s hs (base0 4 tabs)
  have hlen : s.data.toList.length = s.size := by show _ = s.data.size; simp
  have hk := pcs_count 10 s.data.toList
  generalize hls : pcs 10 s.data.toList = ls at h1 hg hk
  obtain ⟨i, hi, hi1, _⟩ := i9
  have hsz : ∀ p ∈ ls, p.length < 100000 := fun p hp => by
    have := pcs_short 10 s.data.toList p (by rw [hls]; exact hp)
    omega
  have h2 : (if (8 : Int) < (ls.length : Int) then 8 else (ls.length : Int)) = ((min ls.length 8 : Nat) : Int) := by split <;> omega
  have h3 : sliceA Tryd.prog 0 58 (Sl (base0 4 tabs).next ls.length) none (some (.int .i64 ((min ls.length 8 : Nat) : Int))) none σ = some (Slc (base0 4 tabs).next (min ls.length 8) ls.length, σ) :=
    slice_row Tryd.underlying58 hi hg (by omega) (by omega)
  obtain ⟨y, w', h4, hQ⟩ := loop40 s (base0 4 tabs).next ls.length (min ls.length 8) ls rfl σ hg hsz (min ls.length 8) 0 0#64 (wc40 s (base0 4 tabs).next ls.length ((min ls.length 8 : Nat) : Int)) (by omega) (Q_zero ls)
  rw [show u 0#64 = 0 from rfl, show ((0 : Nat) : Int) = 0 from rfl] at h4
  have hy := Q_all hQ rfl
  have ha := app_of (P := Tryd.prog) (E := env15) (lim := 0) rfl h1
  by_cases ht : textS y = s
  · have h6 : (!((textS y).toList == s.toList)) = false := by rw [ht, beq_self_eq_true]; rfl
    have := call40_ok s (u y) _ _ _ _ _ (textS y) _ σ w' ha h2 h3 rfl h4 (fun σ => ov15_32 y 0 σ) h6
    have e : pV s = .tuple #[.int .u64 (u y), .int .i64 0] := by rw [← ht]; exact pV_text y
    rw [e]
    exact pureR t15_ok fns15 this rfl (PF_pair (.int _ _) (.int _ _))
  · have h6 : (!((textS y).toList == s.toList)) = true := by
      rw [ByteArray.toList_eq, ByteArray.toList_eq, beq_eq_false_iff_ne.2 fun e => ht (ba_ext e)]; rfl
    have := call40_no s (u y) _ _ _ _ _ (textS y) _ σ w' ha h2 h3 rfl h4 (fun σ => ov15_32 y 0 σ) h6
    have e : pV s = .tuple #[.int .u64 0, .int .i64 8] := by
      refine pV_none fun ⟨x, hx⟩ => ht ?_
      have : y = x := by
        refine BitVec.eq_of_getLsbD_eq fun j hj => ?_
        rw [hy j hj, ← hls, ← hx, textS_data]
        exact text_ch x j hj
      rw [this, hx]
    rw [e]
    exact pureR t15_ok fns15 this rfl (PF_pair (.int _ _) (.int _ _))
end Go.Proofs.YtakchekhpeokjaaDoor

/-
  BITBOARD (chapter 05): the document's Parse: its rounds. Printed by gen05uf.py.
-/
namespace Go.Proofs.YtakchekhpeokjaaDoor
open Go.Va

noncomputable def body46 : Code := codeOf Tryd.prog 46 [.r, .r, .l, .r, .b, .b]
def T46 (s : ByteArray) (o : Value) (i : Int) (w : Nat → Value) : List Value := fillT 47 [(0, .string s), (2, .int .u64 0), (3, .int .i64 0), (4, o), (5, .int .i64 i)] w
def at46 (i : Int) : Int := IntKind.i64.wrap (IntKind.i64.wrap (8 * IntKind.i64.wrap (7 - IntKind.i64.wrap (i.tdiv 9))) + i.tmod 9)

theorem no46n (s : ByteArray) (i : Int) (σ : AS) (w : Nat → Value) (h1 : decide (i < (s.size : Int)) = true) (h2 : decide (i < 72) = true) (h3 : 0 ≤ i ∧ i < s.size) (h4 : (chr s i == 120) = false) :
    ∃ w', runW Tryd.prog env15 0 (.code ⟨46, none⟩ body46 (T46 s (.slice none 0 0) i w) []) σ = some (.done .normal (T46 s (.slice none 0 0) (inc i) w') [], σ) :=
  seg 100 [(3, .br true), (2, .br true), (4, .ok), (0, .br false)] (m := 47) (js := [0, 2, 3, 4, 5]) (vs := [.string s, .int .u64 0, .int .i64 0, (.slice none 0 0), .int .i64 (inc i)]) (ob := [decide (i < (s.size : Int)) = true, decide (i < 72) = true, 0 ≤ i ∧ i < s.size, (chr s i == 120) = false]) (by kernel_rfl) ⟨h1, h2, h3, h4⟩

theorem side46n (s : ByteArray) (i : Int) (σ : AS) (w : Nat → Value) (h1 : decide (i < (s.size : Int)) = true) (h2 : decide (i < 72) = true) (h3 : 0 ≤ i ∧ i < s.size) (h4 : (chr s i == 120) = true) (h5 : decide (i.tmod 9 < 8) = false) :
    ∃ w', runW Tryd.prog env15 0 (.code ⟨46, none⟩ body46 (T46 s (.slice none 0 0) i w) []) σ = some (.done .normal (T46 s (.slice none 0 0) (inc i) w') [], σ) :=
  seg 100 [(3, .br true), (2, .br true), (4, .ok), (0, .br true), (3, .br false)] (m := 47) (js := [0, 2, 3, 4, 5]) (vs := [.string s, .int .u64 0, .int .i64 0, (.slice none 0 0), .int .i64 (inc i)]) (ob := [decide (i < (s.size : Int)) = true, decide (i < 72) = true, 0 ≤ i ∧ i < s.size, (chr s i == 120) = true, decide (i.tmod 9 < 8) = false]) (by kernel_rfl) ⟨h1, h2, h3, h4, h5⟩

theorem yes46n (s : ByteArray) (i : Int) (w : Nat → Value) (h1 : decide (i < (s.size : Int)) = true) (h2 : decide (i < 72) = true) (h3 : 0 ≤ i ∧ i < s.size) (h4 : (chr s i == 120) = true) (h5 : decide (i.tmod 9 < 8) = true) :
    ∃ w', runW Tryd.prog env15 0 (.code ⟨46, none⟩ body46 (T46 s (.slice none 0 0) i w) []) (base0 4 tabs) = some (.done .normal (T46 s (L [.int .i64 (at46 i)] 1 1 6) (inc i) w') [], R1 [.int .i64 (at46 i)]) :=
  seg 100 [(3, .br true), (2, .br true), (4, .ok), (0, .br true), (3, .br true)] (m := 47) (js := [0, 2, 3, 4, 5]) (vs := [.string s, .int .u64 0, .int .i64 0, (L [.int .i64 (at46 i)] 1 1 6), .int .i64 (inc i)]) (ob := [decide (i < (s.size : Int)) = true, decide (i < 72) = true, 0 ≤ i ∧ i < s.size, (chr s i == 120) = true, decide (i.tmod 9 < 8) = true]) (by kernel_rfl) ⟨h1, h2, h3, h4, h5⟩

theorem end46n (s : ByteArray) (i : Int) (σ : AS) (w : Nat → Value) (h1 : decide (i < (s.size : Int)) = false) :
    ∃ w', runW Tryd.prog env15 0 (.code ⟨46, none⟩ body46 (T46 s (.slice none 0 0) i w) []) σ = some (.done (.exit 0) (T46 s (.slice none 0 0) i w') [], σ) :=
  seg 100 [(3, .br false)] (m := 47) (js := [0, 2, 3, 4, 5]) (vs := [.string s, .int .u64 0, .int .i64 0, (.slice none 0 0), .int .i64 i]) (ob := [decide (i < (s.size : Int)) = false]) (by kernel_rfl) h1

theorem stop46n (s : ByteArray) (i : Int) (σ : AS) (w : Nat → Value) (h1 : decide (i < (s.size : Int)) = true) (h2 : decide (i < 72) = false) :
    ∃ w', runW Tryd.prog env15 0 (.code ⟨46, none⟩ body46 (T46 s (.slice none 0 0) i w) []) σ = some (.done (.exit 0) (T46 s (.slice none 0 0) i w') [], σ) :=
  seg 100 [(3, .br true), (2, .br false)] (m := 47) (js := [0, 2, 3, 4, 5]) (vs := [.string s, .int .u64 0, .int .i64 0, (.slice none 0 0), .int .i64 i]) (ob := [decide (i < (s.size : Int)) = true, decide (i < 72) = false]) (by kernel_rfl) ⟨h1, h2⟩

theorem no46l (s : ByteArray) (i : Int) (d : List Value) (k : Nat) (σ : AS) (w : Nat → Value) (h1 : decide (i < (s.size : Int)) = true) (h2 : decide (i < 72) = true) (h3 : 0 ≤ i ∧ i < s.size) (h4 : (chr s i == 120) = false) :
    ∃ w', runW Tryd.prog env15 0 (.code ⟨46, none⟩ body46 (T46 s (L d k 1 6) i w) []) σ = some (.done .normal (T46 s (L d k 1 6) (inc i) w') [], σ) :=
  seg 100 [(3, .br true), (2, .br true), (4, .ok), (0, .br false)] (m := 47) (js := [0, 2, 3, 4, 5]) (vs := [.string s, .int .u64 0, .int .i64 0, (L d k 1 6), .int .i64 (inc i)]) (ob := [decide (i < (s.size : Int)) = true, decide (i < 72) = true, 0 ≤ i ∧ i < s.size, (chr s i == 120) = false]) (by kernel_rfl) ⟨h1, h2, h3, h4⟩

theorem side46l (s : ByteArray) (i : Int) (d : List Value) (k : Nat) (σ : AS) (w : Nat → Value) (h1 : decide (i < (s.size : Int)) = true) (h2 : decide (i < 72) = true) (h3 : 0 ≤ i ∧ i < s.size) (h4 : (chr s i == 120) = true) (h5 : decide (i.tmod 9 < 8) = false) :
    ∃ w', runW Tryd.prog env15 0 (.code ⟨46, none⟩ body46 (T46 s (L d k 1 6) i w) []) σ = some (.done .normal (T46 s (L d k 1 6) (inc i) w') [], σ) :=
  seg 100 [(3, .br true), (2, .br true), (4, .ok), (0, .br true), (3, .br false)] (m := 47) (js := [0, 2, 3, 4, 5]) (vs := [.string s, .int .u64 0, .int .i64 0, (L d k 1 6), .int .i64 (inc i)]) (ob := [decide (i < (s.size : Int)) = true, decide (i < 72) = true, 0 ≤ i ∧ i < s.size, (chr s i == 120) = true, decide (i.tmod 9 < 8) = false]) (by kernel_rfl) ⟨h1, h2, h3, h4, h5⟩

theorem yes46l (s : ByteArray) (i : Int) (d : List Value) (k : Nat) (w : Nat → Value) (h1 : decide (i < (s.size : Int)) = true) (h2 : decide (i < 72) = true) (h3 : 0 ≤ i ∧ i < s.size) (h4 : (chr s i == 120) = true) (h5 : decide (i.tmod 9 < 8) = true) (h6 : k < 99) :
    ∃ w', runW Tryd.prog env15 0 (.code ⟨46, none⟩ body46 (T46 s (L d k 1 6) i w) []) (R1 d) = some (.done .normal (T46 s (L (d ++ [.int .i64 (at46 i)]) (k + 1) 1 6) (inc i) w') [], R1 (d ++ [.int .i64 (at46 i)])) :=
  seg 100 [(3, .br true), (2, .br true), (4, .ok), (0, .br true), (3, .br true), (11, .ok)] (m := 47) (js := [0, 2, 3, 4, 5]) (vs := [.string s, .int .u64 0, .int .i64 0, (L (d ++ [.int .i64 (at46 i)]) (k + 1) 1 6), .int .i64 (inc i)]) (ob := [decide (i < (s.size : Int)) = true, decide (i < 72) = true, 0 ≤ i ∧ i < s.size, (chr s i == 120) = true, decide (i.tmod 9 < 8) = true, d.length = d.length ∧ (k + 1) * 8 ≤ 70368744177664]) (by kernel_rfl) ⟨h1, h2, h3, h4, h5, rfl, by omega⟩

theorem end46l (s : ByteArray) (i : Int) (d : List Value) (k : Nat) (σ : AS) (w : Nat → Value) (h1 : decide (i < (s.size : Int)) = false) :
    ∃ w', runW Tryd.prog env15 0 (.code ⟨46, none⟩ body46 (T46 s (L d k 1 6) i w) []) σ = some (.done (.exit 0) (T46 s (L d k 1 6) i w') [], σ) :=
  seg 100 [(3, .br false)] (m := 47) (js := [0, 2, 3, 4, 5]) (vs := [.string s, .int .u64 0, .int .i64 0, (L d k 1 6), .int .i64 i]) (ob := [decide (i < (s.size : Int)) = false]) (by kernel_rfl) h1

theorem stop46l (s : ByteArray) (i : Int) (d : List Value) (k : Nat) (σ : AS) (w : Nat → Value) (h1 : decide (i < (s.size : Int)) = true) (h2 : decide (i < 72) = false) :
    ∃ w', runW Tryd.prog env15 0 (.code ⟨46, none⟩ body46 (T46 s (L d k 1 6) i w) []) σ = some (.done (.exit 0) (T46 s (L d k 1 6) i w') [], σ) :=
  seg 100 [(3, .br true), (2, .br false)] (m := 47) (js := [0, 2, 3, 4, 5]) (vs := [.string s, .int .u64 0, .int .i64 0, (L d k 1 6), .int .i64 i]) (ob := [decide (i < (s.size : Int)) = true, decide (i < 72) = false]) (by kernel_rfl) ⟨h1, h2⟩

end Go.Proofs.YtakchekhpeokjaaDoor
