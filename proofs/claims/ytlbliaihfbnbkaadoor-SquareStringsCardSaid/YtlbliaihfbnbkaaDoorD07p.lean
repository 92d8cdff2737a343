/-
  SQUARE (chapter 07): List answers as the document's does.
-/
import Derived.Test.YtlbliaihfbnbkaaDoorD07o
namespace Go.Proofs.YtlbliaihfbnbkaaDoor
open Go.Va

noncomputable def ZS (s r : ByteArray) (p : List Int) : AS := match p with
  | [] => Z0 s r
  | p => Z1 s r (zs p) p.length
noncomputable def XS (s r : ByteArray) (p : List Int) : AS := match p with
  | [] => X0 s r
  | p => X1 s r (zs p) p.length
theorem ZS_cons (s r : ByteArray) (a : Int) (p : List Int) : ZS s r (a :: p) = Z1 s r (zs (a :: p)) (a :: p).length := rfl
theorem XS_cons (s r : ByteArray) (a : Int) (p : List Int) : XS s r (a :: p) = X1 s r (zs (a :: p)) (a :: p).length := rfl
theorem next42 (s r : ByteArray) (i n : Int) (p : List Int) (w : Nat → Value) (h1 : ∀ σ, envM.ov 44 [.string r, .string ⟨#[44]⟩] 0 σ = some (.int .i64 i, σ)) (h2 : decide (i < 0) = false) (h3 : 0 ≤ ad i ∧ ad i ≤ r.size)
    (h4 : ∀ σ, envM.ov 23 [.string (r.extract 0 (ad i).toNat)] 0 σ = some (.tuple #[.int .i64 n, .int .i64 0], σ)) (h5 : 0 ≤ ad1 i ∧ ad1 i ≤ r.size) (hk : p.length < 99999) :
    ∃ w', runW Tryd.prog envM 0 (.code ⟨42, none⟩ body42 (T42 w) []) (ZS s r p) = some (.done .normal (T42 w') [], ZS s (r.extract (ad1 i).toNat r.size) (p ++ [n])) := by
  cases p with
  | nil => exact next42n s r i n w h1 h2 h3 h4 h5
  | cons x p =>
    rw [List.cons_append, ZS_cons, ZS_cons, show zs (x :: (p ++ [n])) = zs (x :: p) ++ [.int .i64 n] by simp [zs], show (x :: (p ++ [n])).length = (x :: p).length + 1 by simp]
    exact next42l s r i n _ _ w h1 h2 h3 h4 h5 hk
theorem bad42 (s r : ByteArray) (i : Int) (p : List Int) (w : Nat → Value) (h1 : ∀ σ, envM.ov 44 [.string r, .string ⟨#[44]⟩] 0 σ = some (.int .i64 i, σ)) (h2 : decide (i < 0) = false) (h3 : 0 ≤ ad i ∧ ad i ≤ r.size)
    (h4 : ∀ σ, envM.ov 23 [.string (r.extract 0 (ad i).toNat)] 0 σ = some (.tuple #[.int .i64 0, .int .i64 8], σ)) :
    ∃ w', runW Tryd.prog envM 0 (.code ⟨42, none⟩ body42 (T42 w) []) (ZS s r p) = some (.done .ret (T42 w') [], XS s r p) := by
  cases p with
  | nil => exact bad42n s r i w h1 h2 h3 h4
  | cons x p => exact bad42l s r i _ _ w h1 h2 h3 h4
theorem end42 (s r : ByteArray) (p : List Int) (w : Nat → Value) (h1 : ∀ σ, envM.ov 44 [.string r, .string ⟨#[44]⟩] 0 σ = some (.int .i64 (-1), σ)) :
    ∃ w', runW Tryd.prog envM 0 (.code ⟨42, none⟩ body42 (T42 w) []) (ZS s r p) = some (.done (.exit 2) (T42 w') [], ZS s r p) := by
  cases p with
  | nil => exact end42n s r w h1
  | cons x p => exact end42l s r _ _ w h1

theorem loop42 (s : ByteArray) : ∀ (k : Nat) (r : ByteArray) (p : List Int) (w : Nat → Value), r.size ≤ k → p.length + k < 99999 →
    (goL (pcs 44 r.data.toList) p = none ∧ ∃ w' r' p', runW Tryd.prog envM 0 (.code ⟨42, none⟩ (.loop body42) (T42 w) []) (ZS s r p) = some (.done .ret (T42 w') [], XS s r' p')) ∨
    ∃ q p' w', goL (pcs 44 r.data.toList) p = goL [q.data.toList] p' ∧ p'.length < 99999 ∧ runW Tryd.prog envM 0 (.code ⟨42, none⟩ (.loop body42) (T42 w) []) (ZS s r p) = some (.done (.exit 2) (T42 w') [], ZS s q p') := by
  intro k
  induction k with
  | zero =>
    intro r p w hr hp
    have hl : r.data.toList = [] := by
      have : r.data.size = 0 := by have : r.size = r.data.size := rfl; omega
      exact List.eq_nil_of_length_eq_zero (by simpa using this)
    have hi : Lib.indexByte r.data.toList 44 = -1 := by rw [hl]; rfl
    obtain ⟨w', h⟩ := end42 s r p w fun σ => by rw [ovM_44, hi]
    exact .inr ⟨r, p, w', by rw [pcs_index_none hi], by omega, loop_out (by intro h; cases h) h⟩
  | succ k ih =>
    intro r p w hr hp
    have hlen : r.data.toList.length = r.size := by show _ = r.data.size; simp
    rcases index_cases r.data.toList 44 with hi | ⟨i, hi⟩
    · obtain ⟨w', h⟩ := end42 s r p w fun σ => by rw [ovM_44, hi]
      exact .inr ⟨r, p, w', by rw [pcs_index_none hi], by omega, loop_out (by intro h; cases h) h⟩
    · obtain ⟨hil, hp2⟩ := pcs_index hi
      have e0 : ad (i : Int) = i := by unfold ad; rw [wrap64 (by omega) (by omega)]; omega
      have e1 : ad1 (i : Int) = ((i + 1 : Nat) : Int) := by unfold ad1; rw [wrap64 (by omega) (by omega)]; rfl
      have h1 : ∀ σ, envM.ov 44 [.string r, .string ⟨#[44]⟩] 0 σ = some (.int .i64 (i : Int), σ) := fun σ => by rw [ovM_44, hi]
      have h2 : decide ((i : Int) < 0) = false := decide_eq_false (by omega)
      have h3 : 0 ≤ ad i ∧ ad i ≤ r.size := by rw [e0]; omega
      have h5 : 0 ≤ ad1 i ∧ ad1 i ≤ r.size := by rw [e1]; omega
      have hx : r.extract 0 (ad i).toNat = str (r.data.toList.take i) := by rw [e0, Int.toNat_natCast, ex_str, List.drop_zero, Nat.sub_zero]
      have hy : r.extract (ad1 i).toNat r.size = str (r.data.toList.drop (i + 1)) := by
        rw [e1, Int.toNat_natCast, ex_str, List.take_of_length_le (by rw [List.length_drop]; omega)]
      rw [hp2]
      cases hb : parseB (str (r.data.toList.take i)) with
      | false =>
        have h4 : ∀ σ, envM.ov 23 [.string (r.extract 0 (ad i).toNat)] 0 σ = some (.tuple #[.int .i64 0, .int .i64 8], σ) := fun σ => by rw [hx, ovM_23, parseV_no hb]
        obtain ⟨w', h⟩ := bad42 s r i p w h1 h2 h3 h4
        refine .inl ⟨?_, w', r, p, loop_out (by intro h; cases h) h⟩
        show (bif parseB (str (r.data.toList.take i)) then _ else none) = none
        rw [hb, cond_false]
      | true =>
        have h4 : ∀ σ, envM.ov 23 [.string (r.extract 0 (ad i).toNat)] 0 σ = some (.tuple #[.int .i64 (parseI (str (r.data.toList.take i))), .int .i64 0], σ) := fun σ => by rw [hx, ovM_23, parseV_ok hb]
        obtain ⟨w1, h⟩ := next42 s r i _ p w h1 h2 h3 h4 h5 (by omega)
        rw [hy] at h
        have hsz : (str (r.data.toList.drop (i + 1))).size ≤ k := by
          show (r.data.toList.drop (i + 1)).toArray.size ≤ k
          rw [List.size_toArray, List.length_drop]; omega
        have hg : goL (r.data.toList.take i :: pcs 44 (r.data.toList.drop (i + 1))) p = goL (pcs 44 (r.data.toList.drop (i + 1))) (p ++ [parseI (str (r.data.toList.take i))]) := by
          show (bif parseB (str (r.data.toList.take i)) then _ else none) = _
          rw [hb, cond_true]
        rw [hg]
        have hd : (str (r.data.toList.drop (i + 1))).data.toList = r.data.toList.drop (i + 1) := by unfold str; simp
        rcases ih (str (r.data.toList.drop (i + 1))) (p ++ [parseI (str (r.data.toList.take i))]) w1 hsz (by rw [List.length_append]; simp; omega) with ⟨h6, w', r', p', h7⟩ | ⟨q, p', w', h6, h8, h7⟩
        · rw [hd] at h6
          exact .inl ⟨h6, w', r', p', loop_next h h7⟩
        · rw [hd] at h6
          exact .inr ⟨q, p', w', h6, h8, loop_next h h7⟩

theorem w_of {n : Nat} {f : FuncId} {args : List Value} {v : Value} (hs : List (Nat × Hint)) (ob : List Prop) (hr : upshot (runH Tryd.prog envM n 0 (.call f args) (base0 3 []) ⟨hs, []⟩) = some (v, ob)) (ho : All ob) :
    ∃ σ', runW Tryd.prog envM 0 (.call f args) (base0 3 []) = some (.val v, σ') := by
  obtain ⟨m, σ', h⟩ := run_of hr ho
  exact ⟨σ', runW_of h⟩
def w42 (s : ByteArray) (j : Nat) : Value := Go.Va.look [(9, .string ⟨#[44]⟩), (10, .int .i64 1), (11, .bool false)] j undef
def eS (s : ByteArray) : Prop := (s.toList == (⟨#[]⟩ : ByteArray).toList) = false
def lpP (s : ByteArray) (o : Out) (σ' : AS) : Prop := runW Tryd.prog envM 0 (.code ⟨42, none⟩ (.loop body42) (T42 (w42 s)) []) (Z0 s s) = some (o, σ')
theorem f25_ret_n (s r : ByteArray) (w' : Nat → Value) (h0 : eS s) (h : lpP s (.done .ret (T42 w') []) (X0 s r)) :
    ∃ σ', runW Tryd.prog envM 0 (.call 25 [.string s]) (base0 3 []) = some (.val (.tuple #[.slice none 0 0, .int .i64 8]), σ') :=
  w_of (n := 1000) [(3, .br false), (19, .skip (.done .ret (T42 w') []) (X0 s r))] [eS s, lpP s (.done .ret (T42 w') []) (X0 s r)] (by kernel_rfl) ⟨h0, h⟩
theorem f25_ret_l (s r : ByteArray) (d : List Value) (k : Nat) (w' : Nat → Value) (h0 : eS s) (h : lpP s (.done .ret (T42 w') []) (X1 s r d k)) :
    ∃ σ', runW Tryd.prog envM 0 (.call 25 [.string s]) (base0 3 []) = some (.val (.tuple #[.slice none 0 0, .int .i64 8]), σ') :=
  w_of (n := 1000) [(3, .br false), (19, .skip (.done .ret (T42 w') []) (X1 s r d k))] [eS s, lpP s (.done .ret (T42 w') []) (X1 s r d k)] (by kernel_rfl) ⟨h0, h⟩
theorem f25_bad_n (s r : ByteArray) (w' : Nat → Value) (h0 : eS s) (h : lpP s (.done (.exit 2) (T42 w') []) (Z0 s r)) (h1 : ∀ σ, envM.ov 23 [.string r] 0 σ = some (.tuple #[.int .i64 0, .int .i64 8], σ)) :
    ∃ σ', runW Tryd.prog envM 0 (.call 25 [.string s]) (base0 3 []) = some (.val (.tuple #[.slice none 0 0, .int .i64 8]), σ') :=
  w_of (n := 1000) [(3, .br false), (19, .skip (.done (.exit 2) (T42 w') []) (Z0 s r)), (5, .ov (.tuple #[.int .i64 0, .int .i64 8]))] [eS s, lpP s (.done (.exit 2) (T42 w') []) (Z0 s r), (∀ σ, envM.ov 23 [.string r] 0 σ = some (.tuple #[.int .i64 0, .int .i64 8], σ))] (by kernel_rfl) ⟨h0, h, h1⟩
theorem f25_bad_l (s r : ByteArray) (d : List Value) (k : Nat) (w' : Nat → Value) (h0 : eS s) (h : lpP s (.done (.exit 2) (T42 w') []) (Z1 s r d k)) (h1 : ∀ σ, envM.ov 23 [.string r] 0 σ = some (.tuple #[.int .i64 0, .int .i64 8], σ)) :
    ∃ σ', runW Tryd.prog envM 0 (.call 25 [.string s]) (base0 3 []) = some (.val (.tuple #[.slice none 0 0, .int .i64 8]), σ') :=
  w_of (n := 1000) [(3, .br false), (19, .skip (.done (.exit 2) (T42 w') []) (Z1 s r d k)), (5, .ov (.tuple #[.int .i64 0, .int .i64 8]))] [eS s, lpP s (.done (.exit 2) (T42 w') []) (Z1 s r d k), (∀ σ, envM.ov 23 [.string r] 0 σ = some (.tuple #[.int .i64 0, .int .i64 8], σ))] (by kernel_rfl) ⟨h0, h, h1⟩
theorem f25_good_n (s r : ByteArray) (n : Int) (w' : Nat → Value) (h0 : eS s) (h : lpP s (.done (.exit 2) (T42 w') []) (Z0 s r)) (h1 : ∀ σ, envM.ov 23 [.string r] 0 σ = some (.tuple #[.int .i64 n, .int .i64 0], σ)) :
    ∃ σ', runW Tryd.prog envM 0 (.call 25 [.string s]) (base0 3 []) = some (.val (.tuple #[L [.int .i64 n] 1 1 13, .int .i64 0]), σ') :=
  w_of (n := 1000) [(3, .br false), (19, .skip (.done (.exit 2) (T42 w') []) (Z0 s r)), (5, .ov (.tuple #[.int .i64 n, .int .i64 0]))] [eS s, lpP s (.done (.exit 2) (T42 w') []) (Z0 s r), (∀ σ, envM.ov 23 [.string r] 0 σ = some (.tuple #[.int .i64 n, .int .i64 0], σ))] (by kernel_rfl) ⟨h0, h, h1⟩
theorem f25_good_l (s r : ByteArray) (n : Int) (d : List Value) (k : Nat) (w' : Nat → Value) (h0 : eS s) (h : lpP s (.done (.exit 2) (T42 w') []) (Z1 s r d k)) (h1 : ∀ σ, envM.ov 23 [.string r] 0 σ = some (.tuple #[.int .i64 n, .int .i64 0], σ)) (hk : k < 99999) :
    ∃ σ', runW Tryd.prog envM 0 (.call 25 [.string s]) (base0 3 []) = some (.val (.tuple #[L (d ++ [.int .i64 n]) (k + 1) 1 13, .int .i64 0]), σ') :=
  w_of (n := 1000) [(3, .br false), (19, .skip (.done (.exit 2) (T42 w') []) (Z1 s r d k)), (5, .ov (.tuple #[.int .i64 n, .int .i64 0])), (11, .ok)]
    [eS s, lpP s (.done (.exit 2) (T42 w') []) (Z1 s r d k), (∀ σ, envM.ov 23 [.string r] 0 σ = some (.tuple #[.int .i64 n, .int .i64 0], σ)), d.length = d.length ∧ (k + 1) * 8 ≤ 70368744177664] (by kernel_rfl) ⟨h0, h, h1, rfl, by omega⟩
theorem p25_empty : Pure Tryd.prog 3 [] 25 [.string ⟨#[]⟩] (.tuple #[.slice none 0 0, .int .i64 0]) :=
  pureT t2_ok fnsM (n := 100) (v := .tuple #[.slice none 0 0, .int .i64 0]) [] [] (by kernel_rfl) trivial rfl (PF_pair (.sliceNone _ _) (.int _ _))
theorem p25 (s : ByteArray) (hs : s.size < 9999) : Pure Tryd.prog 3 [] 25 [.string s] (listV s) := by
  by_cases he : s.data.toList = []
  · obtain rfl : s = ⟨#[]⟩ := ba_ext he
    exact p25_empty
  · have h0 : eS s := by
      unfold eS
      rw [ByteArray.toList_eq, ByteArray.toList_eq]; exact beq_eq_false_iff_ne.2 he
    rw [listV_ne he]
    rcases loop42 s s.size s [] (w42 s) (by omega) (by simp; omega) with ⟨hg, w', r', p', h⟩ | ⟨q, p', w', hg, hp', h⟩
    · rw [hg]
      cases p' with
      | nil =>
        obtain ⟨σ', hr⟩ := f25_ret_n s r' w' h0 h
        exact pureX t2_ok fnsM hr (shed_pair _ _) (resV_PF none)
      | cons x p' =>
        obtain ⟨σ', hr⟩ := f25_ret_l s r' _ _ w' h0 h
        exact pureX t2_ok fnsM hr (shed_pair _ _) (resV_PF none)
    · rw [hg]
      unfold goL
      have hq : str q.data.toList = q := by unfold str; exact ba_ext (by simp)
      rw [hq]
      cases hb : parseB q with
      | false =>
        have h1 : ∀ σ, envM.ov 23 [.string q] 0 σ = some (.tuple #[.int .i64 0, .int .i64 8], σ) := fun σ => by rw [ovM_23, parseV_no hb]
        cases p' with
        | nil =>
          obtain ⟨σ', hr⟩ := f25_bad_n s q w' h0 h h1
          exact pureX t2_ok fnsM hr (shed_pair _ _) (resV_PF none)
        | cons x p' =>
          obtain ⟨σ', hr⟩ := f25_bad_l s q _ _ w' h0 h h1
          exact pureX t2_ok fnsM hr (shed_pair _ _) (resV_PF none)
      | true =>
        have h1 : ∀ σ, envM.ov 23 [.string q] 0 σ = some (.tuple #[.int .i64 (parseI q), .int .i64 0], σ) := fun σ => by rw [ovM_23, parseV_ok hb]
        rw [cond_true]
        cases p' with
        | nil =>
          obtain ⟨σ', hr⟩ := f25_good_n s q (parseI q) w' h0 h h1
          exact pureX t2_ok fnsM hr (shed_pair _ _) (resV_PF (some [parseI q]))
        | cons x p' =>
          obtain ⟨σ', hr⟩ := f25_good_l s q (parseI q) _ _ w' h0 h h1 hp'
          have e : resV (goL [] (x :: p' ++ [parseI q])) = .tuple #[L (zs (x :: p') ++ [.int .i64 (parseI q)]) ((x :: p').length + 1) 1 0, .int .i64 0] := by
            show Value.tuple #[L (zs (x :: (p' ++ [parseI q]))) (x :: (p' ++ [parseI q])).length 1 0, .int .i64 0] = _
            rw [show zs (x :: (p' ++ [parseI q])) = zs (x :: p') ++ [.int .i64 (parseI q)] by simp [zs], show (x :: (p' ++ [parseI q])).length = (x :: p').length + 1 by simp]
          rw [e]
          refine pureX t2_ok fnsM hr (shed_pair _ _) ?_
          rw [← e]
          exact resV_PF _
end Go.Proofs.YtlbliaihfbnbkaaDoor
