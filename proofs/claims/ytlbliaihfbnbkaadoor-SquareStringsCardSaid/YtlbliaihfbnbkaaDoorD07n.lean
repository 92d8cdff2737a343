/-
  SQUARE (chapter 07): the document's List.
-/
import Derived.Test.YtlbliaihfbnbkaaDoorD07m
namespace Go.Proofs.YtlbliaihfbnbkaaDoor
open Go.Va

def OV (p : List Int) : Value := match p with
  | [] => .slice none 0 0
  | p => L (zs p) p.length 1 5
def OS (p : List Int) : AS := match p with
  | [] => base0 3 []
  | p => R1 (zs p)
theorem OV_cons (a : Int) (p : List Int) : OV (a :: p) = L (zs (a :: p)) (a :: p).length 1 5 := rfl
theorem OS_cons (a : Int) (p : List Int) : OS (a :: p) = R1 (zs (a :: p)) := rfl

/-- How the loop ends. -/
def Res26 (s : ByteArray) (g : Option (List Int)) (R : Option (Out × AS)) : Prop := match g with
  | none => ∃ w' σ', R = some (.done .ret (fillT 45 [(2, .slice none 0 0), (3, .int .i64 8)] w') [], σ')
  | some r => ∃ w' a i, R = some (.done (.exit 0) (T26 s (OV r) a i w') [], OS r)

theorem skip26 (s : ByteArray) (a i : Int) (p : List Int) (w : Nat → Value) (h1 : decide (i ≤ (s.size : Int)) = true) (h2 : (i == (s.size : Int)) = false) (h3 : 0 ≤ i ∧ i < s.size) (h4 : (chr s i == 44) = false) :
    ∃ w', runW Tryd.prog envL 0 (.code ⟨26, none⟩ body26 (T26 s (OV p) a i w) []) (OS p) = some (.done .normal (T26 s (OV p) a (IntKind.i64.wrap (i + 1)) w') [], OS p) := by
  cases p with
  | nil => exact skip26n s a i _ w h1 h2 h3 h4
  | cons x p => exact skip26l s a i _ _ _ w h1 h2 h3 h4
theorem end26 (s : ByteArray) (a i : Int) (p : List Int) (w : Nat → Value) (h1 : decide (i ≤ (s.size : Int)) = false) :
    ∃ w', runW Tryd.prog envL 0 (.code ⟨26, none⟩ body26 (T26 s (OV p) a i w) []) (OS p) = some (.done (.exit 0) (T26 s (OV p) a i w') [], OS p) := by
  cases p with
  | nil => exact end26n s a i _ w h1
  | cons x p => exact end26l s a i _ _ _ w h1

/-- At the end of a piece. -/
def At26 (s : ByteArray) (i : Int) : Prop := (i == (s.size : Int)) = true ∨ ((i == (s.size : Int)) = false ∧ (0 ≤ i ∧ i < s.size) ∧ (chr s i == 44) = true)
theorem bad26 (s : ByteArray) (a i : Int) (p : List Int) (w : Nat → Value) (h1 : decide (i ≤ (s.size : Int)) = true) (h2 : At26 s i) (h5 : 0 ≤ a ∧ a ≤ i ∧ i ≤ s.size) (h6 : parseB (s.extract a.toNat i.toNat) = false) :
    ∃ w', runW Tryd.prog envL 0 (.code ⟨26, none⟩ body26 (T26 s (OV p) a i w) []) (OS p) = some (.done .ret (fillT 45 [(2, .slice none 0 0), (3, .int .i64 8)] w') [], OS p) := by
  have h6 : ∀ σ, envL.ov 24 [.string (s.extract a.toNat i.toNat)] 0 σ = some (.tuple #[.int .i64 0, .int .i64 8], σ) := fun σ => by rw [ovL_24, parseV_no h6]
  rcases h2 with h2 | ⟨h2, h3, h4⟩
  · cases p with
    | nil => exact bad26en s a i _ w h1 h2 h5 h6
    | cons x p => exact bad26el s a i _ _ _ w h1 h2 h5 h6
  · cases p with
    | nil => exact bad26cn s a i _ w h1 h2 h3 h4 h5 h6
    | cons x p => exact bad26cl s a i _ _ _ w h1 h2 h3 h4 h5 h6
theorem good26 (s : ByteArray) (a i : Int) (p : List Int) (w : Nat → Value) (h1 : decide (i ≤ (s.size : Int)) = true) (h2 : At26 s i) (h5 : 0 ≤ a ∧ a ≤ i ∧ i ≤ s.size) (h6 : parseB (s.extract a.toNat i.toNat) = true) (hk : p.length < 99999) :
    ∃ w', runW Tryd.prog envL 0 (.code ⟨26, none⟩ body26 (T26 s (OV p) a i w) []) (OS p) =
      some (.done .normal (T26 s (OV (p ++ [parseI (s.extract a.toNat i.toNat)])) (IntKind.i64.wrap (i + 1)) (IntKind.i64.wrap (i + 1)) w') [], OS (p ++ [parseI (s.extract a.toNat i.toNat)])) := by
  have h6 : ∀ σ, envL.ov 24 [.string (s.extract a.toNat i.toNat)] 0 σ = some (.tuple #[.int .i64 (parseI (s.extract a.toNat i.toNat)), .int .i64 0], σ) := fun σ => by rw [ovL_24, parseV_ok h6]
  generalize parseI (s.extract a.toNat i.toNat) = n at h6 ⊢
  have e : ∀ (x : Int) (p : List Int), OV (x :: p ++ [n]) = L (zs (x :: p) ++ [.int .i64 n]) ((x :: p).length + 1) 1 5 ∧ OS (x :: p ++ [n]) = R1 (zs (x :: p) ++ [.int .i64 n]) := fun x p => by
    rw [List.cons_append, OV_cons, OS_cons, show zs (x :: (p ++ [n])) = zs (x :: p) ++ [.int .i64 n] by simp [zs], show (x :: (p ++ [n])).length = (x :: p).length + 1 by simp]
    exact ⟨rfl, rfl⟩
  rcases h2 with h2 | ⟨h2, h3, h4⟩
  · cases p with
    | nil => exact good26en s a i n w h1 h2 h5 h6
    | cons x p =>
      rw [(e x p).1, (e x p).2]
      exact good26el s a i n _ _ w h1 h2 h5 h6 hk
  · cases p with
    | nil => exact good26cn s a i n w h1 h2 h3 h4 h5 h6
    | cons x p =>
      rw [(e x p).1, (e x p).2]
      exact good26cl s a i n _ _ w h1 h2 h3 h4 h5 h6 hk

theorem chr_eq (s : ByteArray) {i : Nat} (h : i < s.data.toList.length) : (chr s i == 44) = (s.data.toList[i] == 44) := by
  unfold chr
  rw [Int.toNat_natCast, List.getD_eq_getElem?_getD, List.getElem?_eq_getElem h, Option.getD_some]
  refine Bool.eq_iff_iff.2 ?_
  rw [beq_iff_eq, beq_iff_eq]
  constructor
  · intro e
    exact UInt8.toNat_inj.1 (by have : (s.data.toList[i].toNat : Int) = 44 := e; show s.data.toList[i].toNat = 44; omega)
  · intro e; rw [e]; rfl

theorem loop26 (s : ByteArray) (hs : s.size < 9999) : ∀ (k i a : Nat) (acc : List Int) (w : Nat → Value), i + k = s.size → a ≤ i → acc.length ≤ i → (∀ b ∈ (s.data.toList.drop a).take (i - a), b ≠ 44) →
    Res26 s (goL (pcs 44 (s.data.toList.drop a)) acc) (runW Tryd.prog envL 0 (.code ⟨26, none⟩ (.loop body26) (T26 s (OV acc) a i w) []) (OS acc)) := by
  have hlen : s.data.toList.length = s.size := by show _ = s.data.size; simp
  intro k
  induction k with
  | zero =>
    intro i a acc w hi ha hacc hp
    have hd : (s.data.toList.drop a).take (i - a) = s.data.toList.drop a := List.take_of_length_le (by rw [List.length_drop]; omega)
    rw [hd] at hp
    rw [pcs_none hp]
    have hex : s.extract ((a : Int)).toNat ((i : Int)).toNat = str (s.data.toList.drop a) := by rw [Int.toNat_natCast, Int.toNat_natCast, ex_str, hd]
    have h1 : decide ((i : Int) ≤ (s.size : Int)) = true := decide_eq_true (by omega)
    have h2 : At26 s i := .inl (beq_iff_eq.2 (by omega))
    unfold goL
    cases hb : parseB (str (s.data.toList.drop a)) with
    | false =>
      rw [cond_false]
      obtain ⟨w', h⟩ := bad26 s a i acc w h1 h2 (by omega) (by rw [hex]; exact hb)
      exact ⟨w', _, loop_out (by intro h; cases h) h⟩
    | true =>
      rw [cond_true]
      obtain ⟨w1, h⟩ := good26 s a i acc w h1 h2 (by omega) (by rw [hex]; exact hb) (by omega)
      rw [hex, wrap64 (by omega) (by omega)] at h
      obtain ⟨w2, h'⟩ := end26 s ((i : Int) + 1) ((i : Int) + 1) (acc ++ [parseI (str (s.data.toList.drop a))]) w1 (decide_eq_false (by omega))
      exact ⟨w2, _, _, loop_next h (loop_out (by intro h; cases h) h')⟩
  | succ k ih =>
    intro i a acc w hi ha hacc hp
    have hil : i < s.data.toList.length := by omega
    have h1 : decide ((i : Int) ≤ (s.size : Int)) = true := decide_eq_true (by omega)
    have h2 : ((i : Int) == (s.size : Int)) = false := beq_eq_false_iff_ne.2 (by omega)
    have h3 : (0 : Int) ≤ i ∧ (i : Int) < s.size := by omega
    have e1 : IntKind.i64.wrap ((i : Int) + 1) = ((i + 1 : Nat) : Int) := by rw [wrap64 (by omega) (by omega)]; rfl
    cases hc : s.data.toList[i] == 44 with
    | false =>
      obtain ⟨w1, h⟩ := skip26 s a i acc w h1 h2 h3 (by rw [chr_eq s hil]; exact hc)
      rw [e1] at h
      have := ih (i + 1) a acc w1 (by omega) (by omega) (by omega) fun b hb => by
        have e : (s.data.toList.drop a).take (i + 1 - a) = (s.data.toList.drop a).take (i - a) ++ [s.data.toList[i]] := by
          rw [show i + 1 - a = (i - a) + 1 by omega, List.take_succ_eq_append_getElem (by rw [List.length_drop]; omega)]
          simp [show a + (i - a) = i by omega]
        rw [e] at hb
        rcases List.mem_append.1 hb with hb | hb
        · exact hp b hb
        · rw [List.mem_singleton] at hb
          rw [hb]
          exact beq_eq_false_iff_ne.1 hc
      revert this
      cases goL (pcs 44 (s.data.toList.drop a)) acc with
      | none => rintro ⟨w', σ', h'⟩; exact ⟨w', σ', loop_next h h'⟩
      | some r => rintro ⟨w', a', i', h'⟩; exact ⟨w', a', i', loop_next h h'⟩
    | true =>
      have hg : s.data.toList[i] = 44 := eq_of_beq hc
      have h4 : At26 s i := .inr ⟨h2, h3, by rw [chr_eq s hil]; exact hc⟩
      have hex : s.extract ((a : Int)).toNat ((i : Int)).toNat = str ((s.data.toList.drop a).take (i - a)) := by rw [Int.toNat_natCast, Int.toNat_natCast, ex_str]
      have hcut : pcs 44 (s.data.toList.drop a) = (s.data.toList.drop a).take (i - a) :: pcs 44 (s.data.toList.drop (i + 1)) := by
        have e : s.data.toList.drop a = (s.data.toList.drop a).take (i - a) ++ 44 :: s.data.toList.drop (i + 1) := by
          have h5 : (s.data.toList.drop a).drop (i - a) = 44 :: s.data.toList.drop (i + 1) := by
            rw [List.drop_drop, show a + (i - a) = i by omega, List.drop_eq_getElem_cons hil, hg]
          rw [← h5, List.take_append_drop]
        conv => lhs; rw [e]
        exact pcs_cut hp
      rw [hcut]
      unfold goL
      cases hb : parseB (str ((s.data.toList.drop a).take (i - a))) with
      | false =>
        rw [cond_false]
        obtain ⟨w', h⟩ := bad26 s a i acc w h1 h4 (by omega) (by rw [hex]; exact hb)
        exact ⟨w', _, loop_out (by intro h; cases h) h⟩
      | true =>
        rw [cond_true]
        obtain ⟨w1, h⟩ := good26 s a i acc w h1 h4 (by omega) (by rw [hex]; exact hb) (by omega)
        rw [hex, e1] at h
        have := ih (i + 1) (i + 1) (acc ++ [parseI (str ((s.data.toList.drop a).take (i - a)))]) w1 (by omega) (by omega) (by rw [List.length_append]; simp; omega) fun b hb => by simp at hb
        revert this
        cases goL (pcs 44 (s.data.toList.drop (i + 1))) (acc ++ [parseI (str ((s.data.toList.drop a).take (i - a)))]) with
        | none => rintro ⟨w', σ', h'⟩; exact ⟨w', σ', loop_next h h'⟩
        | some r => rintro ⟨w', a', i', h'⟩; exact ⟨w', a', i', loop_next h h'⟩

theorem resV_PF (g : Option (List Int)) : PF (resV g) := by
  unfold resV
  split
  · exact PF_pair (.sliceNone _ _) (.int _ _)
  · exact PF_pair (.sliceNone _ _) (.int _ _)
  · exact PF_pair (PF_list (by omega) (PF_ints .i64 (fun n : Int => n) _)) (.int _ _)
theorem listV_PF (s : ByteArray) : PF (listV s) := by
  unfold listV
  split
  · exact PF_pair (.sliceNone _ _) (.int _ _)
  · exact resV_PF _
def w26 (s : ByteArray) (j : Nat) : Value := Go.Va.look [(9, .string s), (10, .bool false)] j undef

theorem p26_none (s : ByteArray) (hs : s.data.toList ≠ []) (w' : Nat → Value) (σ' : AS)
    (h : runW Tryd.prog envL 0 (.code ⟨26, none⟩ (.loop body26) (T26 s (.slice none 0 0) 0 0 (w26 s)) []) (base0 3 []) = some (.done .ret (fillT 45 [(2, .slice none 0 0), (3, .int .i64 8)] w') [], σ')) :
    runW Tryd.prog envL 0 (.call 26 [.string s]) (base0 3 []) = some (.val (.tuple #[.slice none 0 0, .int .i64 8]), σ') :=
  runW_of_whole (n := 100) (hs := [(4, .br false), (3, .skip (.done .ret (fillT 45 [(2, .slice none 0 0), (3, .int .i64 8)] w') []) σ')])
    (ob := [(s.toList == (⟨#[]⟩ : ByteArray).toList) = false, runW Tryd.prog envL 0 (.code ⟨26, none⟩ (.loop body26) (T26 s (.slice none 0 0) 0 0 (w26 s)) []) (base0 3 []) = some (.done .ret (fillT 45 [(2, .slice none 0 0), (3, .int .i64 8)] w') [], σ')]) (by kernel_rfl)
    ⟨by rw [ByteArray.toList_eq, ByteArray.toList_eq]; exact beq_eq_false_iff_ne.2 hs, h⟩
theorem p26_some (s : ByteArray) (hs : s.data.toList ≠ []) (c : List Value) (n : Nat) (a i : Int) (w' : Nat → Value) (σ' : AS)
    (h : runW Tryd.prog envL 0 (.code ⟨26, none⟩ (.loop body26) (T26 s (.slice none 0 0) 0 0 (w26 s)) []) (base0 3 []) = some (.done (.exit 0) (T26 s (L c n 1 5) a i w') [], σ')) :
    runW Tryd.prog envL 0 (.call 26 [.string s]) (base0 3 []) = some (.val (.tuple #[L c n 1 5, .int .i64 0]), σ') :=
  runW_of_whole (n := 100) (hs := [(4, .br false), (3, .skip (.done (.exit 0) (T26 s (L c n 1 5) a i w') []) σ')])
    (ob := [(s.toList == (⟨#[]⟩ : ByteArray).toList) = false, runW Tryd.prog envL 0 (.code ⟨26, none⟩ (.loop body26) (T26 s (.slice none 0 0) 0 0 (w26 s)) []) (base0 3 []) = some (.done (.exit 0) (T26 s (L c n 1 5) a i w') [], σ')]) (by kernel_rfl)
    ⟨by rw [ByteArray.toList_eq, ByteArray.toList_eq]; exact beq_eq_false_iff_ne.2 hs, h⟩
theorem p26_empty : Pure Tryd.prog 3 [] 26 [.string ⟨#[]⟩] (.tuple #[.slice none 0 0, .int .i64 0]) :=
  pureT t1_ok fnsL (n := 100) (v := .tuple #[.slice none 0 0, .int .i64 0]) [] [] (by kernel_rfl) trivial rfl (PF_pair (.sliceNone _ _) (.int _ _))
theorem goL_ne : ∀ (ps : List (List UInt8)) (acc r : List Int), (acc ≠ [] ∨ ps ≠ []) → goL ps acc = some r → r ≠ []
  | [], acc, r, h, e => by cases e; exact h.elim id fun h => absurd rfl h
  | p :: ps, acc, r, _, e => by
    unfold goL at e
    cases hb : parseB (str p) with
    | false => rw [hb] at e; cases e
    | true => rw [hb, cond_true] at e; exact goL_ne ps _ r (.inl (by simp)) e
theorem listV_ne {s : ByteArray} (hs : s.data.toList ≠ []) : listV s = resV (goL (pcs 44 s.data.toList) []) := by
  unfold listV
  split
  · exact absurd (by assumption) hs
  · rfl

theorem p26 (s : ByteArray) (hs : s.size < 9999) : Pure Tryd.prog 3 [] 26 [.string s] (listV s) := by
  by_cases he : s.data.toList = []
  · obtain rfl : s = ⟨#[]⟩ := ba_ext he
    exact p26_empty
  · have := loop26 s hs s.size 0 0 [] (w26 s) (by omega) (by omega) (by simp) fun b hb => by simp at hb
    rw [List.drop_zero] at this
    rw [listV_ne he]
    cases hg : goL (pcs 44 s.data.toList) [] with
    | none =>
      rw [hg] at this
      obtain ⟨w', σ', h⟩ := this
      exact pureX t1_ok fnsL (p26_none s he w' σ' h) (shed_pair _ _) (resV_PF none)
    | some r =>
      rw [hg] at this
      obtain ⟨w', a, i, h⟩ := this
      cases r with
      | nil => exact absurd rfl (goL_ne _ _ _ (.inr (pcs_ne _ _)) hg)
      | cons x r =>
        rw [OV_cons] at h
        exact pureX t1_ok fnsL (p26_some s he _ _ a i w' _ h) (shed_pair _ _) (resV_PF (some (x :: r)))
end Go.Proofs.YtlbliaihfbnbkaaDoor
