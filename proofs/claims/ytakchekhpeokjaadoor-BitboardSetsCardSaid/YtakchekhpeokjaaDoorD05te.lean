/-
  BITBOARD (chapter 05): Text, as a function of plain values.
-/
import Derived.Test.YtakchekhpeokjaaDoorD05td
namespace Go.Proofs.YtakchekhpeokjaaDoor
open Go.Va

/-- The Builder at b holds s. -/
inductive Bd (σ : AS) (b : Nat) : List Value → Prop where
  | nil : σ.get b = some (Bo (.pointer none) (.slice none 0 0)) → Bd σ b []
  | cons (r : Nat) (qv : Option Nat) (s : List Value) : σ.get b = some (Bo (Pb b) (Sl r s.length)) → σ.get r = some (.cells s true (some 1, some 5) qv) → r ≠ b → r < σ.next →
      (∀ q, qv = some q → q ≠ b ∧ q ≠ r ∧ q < σ.next ∧ ∃ c, σ.get q = some (.cells c false (some 1, some 5) none)) → Bd σ b s
theorem Bd.mono {σ σ' : AS} {b : Nat} {s : List Value} (h : Bd σ b s) (hb : b < σ.next) (hn : σ.next ≤ σ'.next) (hs : ∀ j, j < σ.next → σ'.get j = σ.get j) : Bd σ' b s := by
  cases h with
  | nil h => exact .nil (by rw [hs b hb, h])
  | cons r qv _ h1 h2 h3 h4 h5 =>
    refine .cons r qv s (by rw [hs b hb, h1]) (by rw [hs r h4, h2]) h3 (by omega) fun q hq => ?_
    obtain ⟨h6, h7, h8, c, h9⟩ := h5 q hq
    exact ⟨h6, h7, by omega, c, by rw [hs q h8, h9]⟩
def Dd : AObj := .obj (.deferred (some []))
structure DS (σ : AS) (ds : List Nat) : Prop where
  nd : ds.Nodup
  h : ∀ d ∈ ds, d < σ.next ∧ σ.get d = some Dd
theorem ne_of_get {σ : AS} {a b : Nat} {x y : AObj} (h1 : σ.get a = some x) (h2 : σ.get b = some y) (h : x ≠ y) : a ≠ b := by
  intro e
  rw [e, h2] at h1
  cases h1
  exact h rfl

theorem write_o {σ : AS} {b z : Nat} {s c : List Value} {lo : Lo} {ds : List Nat} (hB : Bd σ b s) (hb : b < σ.next) (hD : DS σ ds) (hz : σ.get z = some (.cells c true lo none)) (hc : c.length = 9) (hone : c.all oneCell = true) (hzb : z ≠ b) (hs : s.length < 1000) :
    ∃ σ', applyA Tryd.prog env12 (runW Tryd.prog env12) 0 (.func (.func 57) #[] #[]) [Pb b, Sl z 9] σ = some (.tuple #[.int .i64 9, .nilIface], σ') ∧ Bd σ' b (s ++ c) ∧ σ.next ≤ σ'.next ∧ DS σ' ds := by
  cases hB with
  | nil h =>
    refine ⟨W1 σ b c, app_of rfl (write_first b z c lo σ h hz hc hone hb hzb), ?_, ?_, ⟨hD.nd, fun d hd => ?_⟩⟩
    · refine .cons σ.next none _ ?_ ?_ (by omega) ?_ fun q hq => by cases hq
      · unfold W1; rw [get_put_eq rfl, List.nil_append, hc]
      · unfold W1; rw [get_put_ne (by omega), get_push_eq (by rw [next_put]), List.nil_append]
      · show σ.next < σ.next + 1; omega
    · show σ.next ≤ σ.next + 1; omega
    · obtain ⟨h1, h2⟩ := hD.h d hd
      have hdb : d ≠ b := ne_of_get h2 h (by intro e; cases e)
      refine ⟨show d < σ.next + 1 by omega, ?_⟩
      unfold W1
      rw [get_put_ne hdb, get_push_ne (by rw [next_put]; omega), get_put_ne hdb, h2]
  | cons r qv _ h1 h2 h3 h4 h5 =>
    have hk : ∃ σ1, σ.kill 0 qv = some σ1 ∧ σ1.next = σ.next ∧ σ1.get b = σ.get b ∧ ∀ d, σ.get d = some Dd → σ1.get d = some Dd := by
      cases qv with
      | none => exact ⟨σ, rfl, rfl, rfl, fun _ h => h⟩
      | some q =>
        obtain ⟨h6, h7, h8, c', h9⟩ := h5 q rfl
        exact ⟨σ.put q none, rfl, rfl, get_put_ne (fun e => h6 e.symm), fun d hd => by rw [get_put_ne (ne_of_get hd h9 (by intro e; cases e)), hd]⟩
    obtain ⟨σ1, hk, hn1, hb1, hd1⟩ := hk
    have hnx : ((σ1.put r (some (.cells s false (some 1, some 5) none))).push (.cells (s ++ c) true (some 1, some 5) (some r))).next = σ.next + 1 := by rw [next_push, next_put, hn1]
    refine ⟨W2 σ σ1 b r s.length s c, app_of rfl (write_next b z r s.length c s lo qv σ σ1 h1 hz hc hone h2 rfl hs hk (by rw [hb1, h1]) hn1 hb h3), ?_, ?_, ⟨hD.nd, fun d hd => ?_⟩⟩
    · refine .cons σ.next (some r) _ ?_ ?_ (by omega) ?_ fun q hq => ?_
      · unfold W2; rw [get_put_eq rfl, List.length_append, hc]
      · unfold W2; rw [get_put_ne (by omega), get_push_eq (by rw [next_put, hn1])]
      · unfold W2; rw [next_put, hnx]; omega
      · cases hq
        refine ⟨h3, by omega, by unfold W2; rw [next_put, hnx]; omega, s, ?_⟩
        unfold W2
        rw [get_put_ne h3, get_push_ne (by rw [next_put, hn1]; omega), get_put_eq rfl]
    · unfold W2; rw [next_put, hnx]; omega
    · obtain ⟨g1, g2⟩ := hD.h d hd
      have hdb : d ≠ b := ne_of_get g2 h1 (by intro e; cases e)
      have hdr : d ≠ r := ne_of_get g2 h2 (by intro e; cases e)
      refine ⟨by unfold W2; rw [next_put, hnx]; omega, ?_⟩
      unfold W2
      rw [get_put_ne hdb, get_push_ne (by rw [next_put, hn1]; omega), get_put_ne hdr, hd1 d g2]

/-! ## The line -/

theorem paint_get : ∀ (l : List Nat) (c : List Value) (i : Nat), (paint c l)[i]? = if i ∈ l then (c[i]?).map fun _ => .int .u8 120 else c[i]?
  | [], c, i => by simp [paint]
  | n :: l, c, i => by
    show (paint (dotted c n) l)[i]? = _
    rw [paint_get l]
    have e : (dotted c n)[i]? = if n = i then (c[i]?).map fun _ => .int .u8 120 else c[i]? := by
      unfold dotted
      rw [List.getElem?_set]
      by_cases h : n = i
      · rw [if_pos h, if_pos h, ← h]
        by_cases h2 : n < c.length
        · rw [if_pos h2, List.getElem?_eq_getElem h2]; rfl
        · rw [if_neg h2, List.getElem?_eq_none (by omega)]; rfl
      · rw [if_neg h, if_neg h]
    rw [e]
    by_cases h1 : n = i
    · subst h1
      rw [if_pos rfl, if_pos (List.mem_cons_self ..)]
      by_cases h2 : n ∈ l
      · rw [if_pos h2, Option.map_map]; rfl
      · rw [if_neg h2]
    · rw [if_neg h1]
      have : i ∈ n :: l ↔ i ∈ l := by
        rw [List.mem_cons]
        exact ⟨fun h => h.elim (fun e => absurd e.symm h1) id, .inr⟩
      by_cases h2 : i ∈ l
      · rw [if_pos h2, if_pos (this.2 h2)]
      · rw [if_neg h2, if_neg (fun h => h2 (this.1 h))]
def byteOf (x : BitVec 64) (k : Nat) : BitVec 64 := (x >>> (8 * k)) &&& 255#64
theorem m255 : ∀ n, n < 64 → (255#64).getLsbD n = decide (n < 8) := by decide
theorem byteOf_bit (x : BitVec 64) (k i : Nat) (hi : i < 64) : (byteOf x k).getLsbD i = (x.getLsbD (8 * k + i) && decide (i < 8)) := by
  unfold byteOf
  rw [BitVec.getLsbD_and, m255 i hi, BitVec.getLsbD_ushiftRight]
theorem byteOf_lt {x : BitVec 64} {k n : Nat} (h : n ∈ bitsL (byteOf x k)) : n < 8 := by
  obtain ⟨h1, h2⟩ := bitsL_mem.1 h
  rw [byteOf_bit x k n h1] at h2
  simp only [Bool.and_eq_true, decide_eq_true_eq] at h2
  exact h2.2
theorem paint_row (x : BitVec 64) (k : Nat) : paint line0 (bitsL (byteOf x k)) = bys (rowB x k 8 ++ [10]) := by
  refine List.ext_getElem? fun i => ?_
  rw [paint_get]
  have hr : (bys (rowB x k 8 ++ [10]))[i]? = ((rowB x k 8 ++ [10])[i]?).map fun b => .int .u8 b.toNat := by unfold bys; rw [List.getElem?_map]
  rw [hr]
  by_cases h8 : i < 8
  · have e1 : (rowB x k 8 ++ [10])[i]? = some (dotx (x.getLsbD (8 * k + i))) := by
      rw [List.getElem?_append_left (by rw [rowB_len]; exact h8)]
      unfold rowB
      rw [List.getElem?_map, List.getElem?_range h8]; rfl
    have e2 : line0[i]? = some (.int .u8 46) := by
      have : ∀ i, i < 8 → line0[i]? = some (.int .u8 46) := by
        intro i hi
        match i, hi with
        | 0, _ | 1, _ | 2, _ | 3, _ | 4, _ | 5, _ | 6, _ | 7, _ => rfl
        | n + 8, h => omega
      exact this i h8
    rw [e1, e2]
    have hb := byteOf_bit x k i (by omega)
    rw [decide_eq_true h8, Bool.and_true] at hb
    cases hx : x.getLsbD (8 * k + i) with
    | true =>
      rw [hx] at hb
      rw [if_pos (bitsL_mem.2 ⟨by omega, hb⟩)]; rfl
    | false =>
      rw [hx] at hb
      rw [if_neg (fun h => by rw [(bitsL_mem.1 h).2] at hb; cases hb)]; rfl
  · rw [if_neg (fun h => h8 (byteOf_lt h))]
    by_cases h9 : i = 8
    · subst h9
      rw [List.getElem?_append_right (by rw [rowB_len]; omega), rowB_len]; rfl
    · have : line0.length = 9 := rfl
      rw [List.getElem?_eq_none (by omega), List.getElem?_eq_none (by rw [List.length_append, rowB_len]; simp; omega)]; rfl
theorem bys_one (l : List UInt8) : (bys l).all oneCell = true := by
  refine List.all_eq_true.2 fun v hv => ?_
  obtain ⟨b, _, rfl⟩ := List.mem_map.1 hv
  rfl
theorem bys_len (l : List UInt8) : (bys l).length = l.length := List.length_map ..
theorem bytesOf_bys : ∀ l : List UInt8, bytesOf (bys l) = some l
  | [] => rfl
  | b :: l => by
    show (match bytesOf (bys l) with
      | some r => some (((b.toNat : Int)).toNat.toUInt8 :: r)
      | none => none) = _
    rw [bytesOf_bys l]
    simp

/-! ## The rounds -/

theorem round32o (x : BitVec 64) (b k : Nat) (hk : k < 8) {σ : AS} {s : List Value} {ds : List Nat} (w : Nat → Value) (hB : Bd σ b s) (hb : b < σ.next) (hs : s.length < 1000) (hD : DS σ ds) :
    ∃ w' σ' ds', runW Tryd.prog env12 0 (.code ⟨32, none⟩ body32 (T32 (u x) b k w) ds) σ = some (.done .normal (T32 (u x) b ((k : Int) - 1) w') ds', σ') ∧ Bd σ' b (s ++ bys (rowB x k 8 ++ [10])) ∧ b < σ'.next ∧ DS σ' ds' := by
  have ew : IntKind.i64.wrap (8 * (k : Int)) = ((8 * k : Nat) : Int) := by rw [wrap64 (by omega) (by omega)]; omega
  have ey : andS (shrS (u x) (IntKind.i64.wrap (8 * (k : Int)))) 255 = u (byteOf x k) := by
    rw [ew, shrS_u x (8 * k) (by omega), show (255 : Int) = u 255#64 from rfl, andS_u]; rfl
  let y := u (byteOf x k)
  have hl1 : (lin σ).get (σ.next + 1) = some (.cells [.slice none 0 0] true (none, some 60) none) := get_push_eq rfl
  have hA : (lin σ).setCells 0 ⟨σ.next + 1, 0, none⟩ [Sl σ.next 9] 0 = some (linA σ) := setCells1 hl1 (by omega) (by decide : 0 < 1) rfl
  have hnB : (linB σ y).next = σ.next + 3 := rfl
  have hnA : (linA σ).next = σ.next + 2 := rfl
  have gq : (linB σ y).get (σ.next + 1) = some (.cells [Sl σ.next 9] true (none, some 60) none) := by
    unfold linB; rw [get_push_ne (by rw [hnA]; omega)]; exact get_put_eq rfl
  have gz : (linB σ y).get σ.next = some (.cells line0 true (some 1, some 5) none) := by
    unfold linB; rw [get_push_ne (by rw [hnA]; omega)]
    unfold linA; rw [get_put_ne (by omega)]
    unfold lin; rw [get_push_ne (by show σ.next ≠ σ.next + 1; omega), get_push_eq rfl]
  have gk : (linB σ y).get (σ.next + 2) = some (.cells [.int .u64 y] true (none, some 23) none) := get_push_eq rfl
  have gold : ∀ j, j < σ.next → (linB σ y).get j = σ.get j := fun j hj => by
    unfold linB; rw [get_push_ne (by rw [hnA]; omega)]
    unfold linA; rw [get_put_ne (by omega)]
    unfold lin; rw [get_push_ne (by show j ≠ σ.next + 1; omega), get_push_ne (by omega)]
  obtain ⟨σC, hC, cz, cn, cold, cd⟩ := rng32_run (w := w32 (u x) k y b σ w) (ds := ds) gq gz rfl gk (fun n hn => by have := byteOf_lt hn; omega) (by rw [hnB]; omega) (by rw [hnB]; omega) (by rw [hnB]; omega) (by omega)
  rw [hnB] at cn cold cd
  have hold : ∀ j, j < σ.next → σC.get j = σ.get j := fun j hj => (cold j (by omega) (by omega)).trans (gold j hj)
  have hL : σC.cell? ⟨σ.next + 1, 0, none⟩ = some (Sl σ.next 9) := cell_of ((cold (σ.next + 1) (by omega) (by omega)).trans gq) rfl
  rw [paint_row] at cz
  have hBC : Bd σC b s := hB.mono hb (by omega) hold
  have hDC : DS σC ((σ.next + 3) :: ds) := by
    refine ⟨List.nodup_cons.2 ⟨fun h => ?_, hD.nd⟩, fun d hd => ?_⟩
    · have := (hD.h _ h).1; omega
    · rcases List.mem_cons.1 hd with rfl | hd
      · exact ⟨by omega, cd⟩
      · obtain ⟨h1, h2⟩ := hD.h d hd
        exact ⟨by omega, by rw [hold d h1, h2]⟩
  obtain ⟨σD, hW, hBD, hnD, hDD⟩ := write_o hBC (by omega) hDC cz (by rw [bys_len, List.length_append, rowB_len]; rfl) (bys_one _) (by omega) hs
  obtain ⟨w', h⟩ := turn32 (u x) k y b σ σC σD w ds (decide_eq_true (by omega)) (by rw [ew]; omega) ey hA hC hL hW
  rw [wrap64 (n := (k : Int) - 1) (by omega) (by omega)] at h
  exact ⟨w', σD, _, h, hBD, by omega, hDD⟩

theorem loop32 (x : BitVec 64) (b : Nat) : ∀ (k : Nat) {σ : AS} {ds : List Nat} (w : Nat → Value), k ≤ 8 → Bd σ b (bys (topB x (8 - k))) → b < σ.next → DS σ ds →
    ∃ w' σ' ds', runW Tryd.prog env12 0 (.code ⟨32, none⟩ (.loop body32) (T32 (u x) b ((k : Int) - 1) w) ds) σ = some (.done (.exit 0) (T32 (u x) b (-1) w') ds', σ') ∧ Bd σ' b (bys (topB x 8)) ∧ DS σ' ds' := by
  intro k
  induction k with
  | zero =>
    intro σ ds w _ hB _ hD
    obtain ⟨w', h⟩ := end32 (u x) (-1) b σ w ds (by decide)
    exact ⟨w', σ, ds, loop_out (by intro h; cases h) h, hB, hD⟩
  | succ k ih =>
    intro σ ds w hk hB hb hD
    obtain ⟨w1, σ1, ds1, h1, hB1, hb1, hD1⟩ := round32o x b k (by omega) w hB hb (by rw [bys_len, topB_len]; omega) hD
    have e : bys (topB x (8 - (k + 1))) ++ bys (rowB x k 8 ++ [10]) = bys (topB x (8 - k)) := by
      rw [show 8 - k = (8 - (k + 1)) + 1 by omega, topB_succ, show 7 - (8 - (k + 1)) = k by omega]
      simp only [bys, List.map_append]
    rw [e] at hB1
    obtain ⟨w', σ', ds', h2, hB2, hD2⟩ := ih w1 (by omega) hB1 hb1 hD1
    rw [show (((k + 1 : Nat) : Int) - 1) = (k : Int) by omega]
    exact ⟨w', σ', ds', loop_next h1 h2, hB2, hD2⟩

def s32 : AS := (base0 4 tabs).push (Bo (.pointer none) (.slice none 0 0))
theorem code32 (x : Int) (s : ByteArray) (w1 : Nat → Value) (ds : List Nat) (σ1 σ2 : AS)
    (h1 : runW Tryd.prog env12 0 (.code ⟨32, none⟩ (.loop body32) (T32 x 4 7 (fun j => Go.Va.look [(2, Value.string ⟨#[]⟩)] j undef)) []) s32 = some (.done (.exit 0) (T32 x 4 (-1) w1) ds, σ1))
    (h2 : applyA Tryd.prog env12 (runW Tryd.prog env12) 0 (.func (.func 58) #[] #[]) [Pb 4] σ1 = some (.string s, σ2)) :
    ∃ w', runW Tryd.prog env12 0 (.code ⟨32, none⟩ (codeOf Tryd.prog 32 []) ([.int .u64 x] ++ List.replicate 26 undef) []) (base0 4 tabs) = some (.done .ret (fillT 27 [(2, .string s)] w') ds, σ2) :=
  seg 100 [(3, .skip (.done (.exit 0) (T32 x 4 (-1) w1) ds) σ1), (0, .sem (.string s) σ2)] (m := 27) (js := [2]) (vs := [.string s])
    (ob := [runW Tryd.prog env12 0 (.code ⟨32, none⟩ (.loop body32) (T32 x 4 7 (fun j => Go.Va.look [(2, Value.string ⟨#[]⟩)] j undef)) []) s32 = some (.done (.exit 0) (T32 x 4 (-1) w1) ds, σ1),
      applyA Tryd.prog env12 (runW Tryd.prog env12) 0 (.func (.func 58) #[] #[]) [Pb 4] σ1 = some (.string s, σ2)]) (by kernel_rfl) ⟨h1, h2⟩

theorem p32 (x : BitVec 64) : Pure Tryd.prog 4 tabs 32 [.int .u64 (u x)] (.string (textS x)) := by
  have hb : s32.get 4 = some (Bo (.pointer none) (.slice none 0 0)) := get_push_eq rfl
  obtain ⟨w1, σ1, ds, h1, hB, hD⟩ := loop32 x 4 8 (σ := s32) (ds := []) (fun j => Go.Va.look [(2, Value.string ⟨#[]⟩)] j undef) (by omega) (.nil hb) (show 4 < 4 + 1 by omega) ⟨List.nodup_nil, fun d hd => by cases hd⟩
  rw [show (((8 : Nat) : Int) - 1) = 7 from rfl] at h1
  have hlen : (bys (topB x 8)).length = 72 := by rw [bys_len, topB_len]
  generalize hs : bys (topB x 8) = s at hB
  cases hB with
  | nil h => rw [hs] at hlen; cases hlen
  | cons r qv _ g1 g2 g3 g4 g5 =>
    rw [hs] at hlen
    rw [hlen] at g1
    have hk : ∃ σ2, σ1.kill 0 qv = some σ2 ∧ ∀ d, σ1.get d = some Dd → σ2.get d = some Dd := by
      cases qv with
      | none => exact ⟨σ1, rfl, fun _ h => h⟩
      | some q =>
        obtain ⟨h6, h7, h8, c', h9⟩ := g5 q rfl
        exact ⟨σ1.put q none, rfl, fun d hd => by rw [get_put_ne (ne_of_get hd h9 (by intro e; cases e)), hd]⟩
    obtain ⟨σ2, hk, hd2⟩ := hk
    have h2 := app_of (P := Tryd.prog) (E := env12) (lim := 0) rfl (string_of 4 r s (topB x 8) qv σ1 σ2 g1 g2 hlen (by rw [← hs]; exact bytesOf_bys _) hk)
    obtain ⟨w', h⟩ := code32 (u x) (textS x) w1 ds σ1 _ h1 h2
    obtain ⟨σ4, h4⟩ := takeA_of (P := Tryd.prog) (lim := 0) ds (σ2.put r (some (.cells s false (some 1, some 5) none))) hD.nd fun d hd => ⟨by omega, by
      have h3 := (hD.h d hd).2
      rw [get_put_ne (ne_of_get h3 g2 (by intro e; cases e))]; exact hd2 d h3⟩
    have hc := call_of (args := [.int .u64 (u x)]) (f := 32) (by rfl) Tryd.func32 (show Tryd.f32.body = some (codeOf Tryd.prog 32 []) by kernel_rfl) h h4 (show runA Tryd.prog 0 (results Tryd.f32 (fillT 27 [(2, .string (textS x))] w').toArray) σ4 = some (.string (textS x), σ4) by kernel_rfl)
    exact topW zeroOk mixed rfl (mix_good _ _) (mix_ok fun f args v _ h => pfT_pure t12_ok f args v h) (fnOk_of rfl fns12) hc rfl (.string _)
end Go.Proofs.YtakchekhpeokjaaDoor
