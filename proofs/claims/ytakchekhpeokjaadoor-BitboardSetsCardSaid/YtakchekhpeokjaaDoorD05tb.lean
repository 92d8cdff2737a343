/-
  BITBOARD (chapter 05): what the Builder's Write and String do, on an open heap.
-/
import Derived.Test.YtakchekhpeokjaaDoorD05ta
import Derived.Test.YtakchekhpeokjaaDoorVap4
namespace Go.Proofs.YtakchekhpeokjaaDoor
open Go.Va

def k56 : List Value → Option Value
  | [.string s, .int .i64 n] => bif veq1 (.string s) (.string ⟨#[46]⟩) && decide (n = 8) then some dots else none
  | _ => none
theorem p56 : KOk Tryd.prog 4 tabs 56 k56 := by
  intro args v h
  unfold k56 at h
  split at h
  · rename_i s n
    exact pf1_pure 56 [.string s, .int .i64 n] v rfl h
  · cases h
noncomputable def t12 : Ktab := (56, k56) :: t11
theorem t12_ok : TOk Tryd.prog 4 tabs t12 := ⟨p56, t11_ok⟩
noncomputable def env12 : Env := envT t12
set_option maxRecDepth 100000 in
theorem fns12 : fnB Tryd.prog 4 env12 okL = true := by kernel_rfl

def Pb (b : Nat) : Value := .pointer (some ⟨b, 0, none⟩)
def Sl (z n : Nat) : Value := .slice (some ⟨z, 0, none⟩) n n
/-- The Builder's object. -/
def Bo (a v : Value) : AObj := .cells [a, v] true (none, some 72) none
def W1 (σ : AS) (b : Nat) (c : List Value) : AS := ((σ.put b (some (Bo (Pb b) (.slice none 0 0)))).push (.cells c true (some 1, some 5) none)).put b (some (Bo (Pb b) (Sl σ.next 9)))
/-- 'σ1': the heap without the row before the last one. -/
def W2 (σ σ1 : AS) (b r m : Nat) (d c : List Value) : AS := ((σ1.put r (some (.cells d false (some 1, some 5) none))).push (.cells (d ++ c) true (some 1, some 5) (some r))).put b (some (Bo (Pb b) (Sl σ.next (m + 9))))

theorem conv1 {b : Nat} {σ : AS} (h : σ.get b = some (Bo (.pointer none) (.slice none 0 0))) : ptrConv Tryd.prog 70 93 ⟨b, 0, none⟩ σ = some (Pb b, σ) ∧ ptrConv Tryd.prog 93 70 ⟨b, 0, none⟩ σ = some (Pb b, σ) := by
  have e1 : ptrOk Tryd.prog 70 93 0 (Bo (.pointer none) (.slice none 0 0)) = true := by kernel_rfl
  have e2 : ptrOk Tryd.prog 93 70 0 (Bo (.pointer none) (.slice none 0 0)) = true := by kernel_rfl
  unfold ptrConv
  dsimp only
  rw [h]
  dsimp only
  rw [e1, e2]
  exact ⟨rfl, rfl⟩
theorem i5 : ∃ i, Tryd.prog.info? 5 = some i ∧ i.size = 1 ∧ i.zero.isSome = true ∧ i.bytes = 1 := by
  refine ⟨_, rfl, ?_, ?_, ?_⟩ <;> kernel_rfl

theorem write_first (b z : Nat) (c : List Value) (lo : Lo) (σ : AS) (hb : σ.get b = some (Bo (.pointer none) (.slice none 0 0))) (hz : σ.get z = some (.cells c true lo none)) (hc : c.length = 9) (hone : c.all oneCell = true) (hbn : b < σ.next) (hzb : z ≠ b) :
    runW Tryd.prog env12 0 (.call 57 [Pb b, Sl z 9]) σ = some (.val (.tuple #[.int .i64 9, .nilIface]), W1 σ b c) := by
  obtain ⟨i, hi, h1, h2, h3⟩ := i5
  have hb1 : (σ.put b (some (Bo (Pb b) (.slice none 0 0)))).get b = some (Bo (Pb b) (.slice none 0 0)) := get_put_eq rfl
  have hz1 : (σ.put b (some (Bo (Pb b) (.slice none 0 0)))).get z = some (.cells c true lo none) := by rw [get_put_ne hzb, hz]
  have hb2 : ((σ.put b (some (Bo (Pb b) (.slice none 0 0)))).push (.cells c true (some 1, some 5) none)).get b = some (Bo (Pb b) (.slice none 0 0)) := by
    rw [get_push_ne (by rw [next_put]; omega), hb1]
  exact runW_of_whole (n := 100) (hs := [(7, .is (.pointer none)), (4, .sem (Pb b) σ), (1, .sem (Pb b) σ), (2, .sem undef (σ.put b (some (Bo (Pb b) (.slice none 0 0))))), (4, .is (.slice none 0 0)),
      (1, .sem (Sl σ.next 9) ((σ.put b (some (Bo (Pb b) (.slice none 0 0)))).push (.cells c true (some 1, some 5) none))), (2, .sem undef (W1 σ b c))])
    (ob := [σ.cell? ⟨b, 0, none⟩ = some (.pointer none), ptrConv Tryd.prog 70 93 ⟨b, 0, none⟩ σ = some (Pb b, σ), ptrConv Tryd.prog 93 70 ⟨b, 0, none⟩ σ = some (Pb b, σ),
      σ.setCells 0 ⟨b, 0, none⟩ [Pb b] 0 = some (σ.put b (some (Bo (Pb b) (.slice none 0 0)))), (σ.put b (some (Bo (Pb b) (.slice none 0 0)))).cell? ⟨b, 1, none⟩ = some (.slice none 0 0),
      appA Tryd.prog true 0 #[60, 60] [.slice none 0 0, Sl z 9] (σ.put b (some (Bo (Pb b) (.slice none 0 0)))) = some (Sl σ.next 9, (σ.put b (some (Bo (Pb b) (.slice none 0 0)))).push (.cells c true (some 1, some 5) none)),
      ((σ.put b (some (Bo (Pb b) (.slice none 0 0)))).push (.cells c true (some 1, some 5) none)).setCells 0 ⟨b, 1, none⟩ [Sl σ.next 9] 0 = some (W1 σ b c)]) (by kernel_rfl)
    ⟨cell_of hb rfl, (conv1 hb).1, (conv1 hb).2, setCells1 hb (by omega) (by decide) rfl, cell_of hb1 rfl,
      append_nil Tryd.underlying60 Tryd.underlying60 hi h1 h2 hz1 hc (by omega) (by omega) (by omega) hone, setCells1 hb2 (by omega) (by decide : 1 < 2) rfl⟩

theorem neq_same {P : Program} {T el : TypeId} (hT : P.underlying T = some (.pointer el)) {i : TypeInfo} (hi : P.info? el = some i) (hs : i.size ≠ 0) (a : Addr) (lim : Nat) (σ : AS) :
    runA P lim (binOp .neq T (.pointer (some a)) (.pointer (some a))) σ = some (.bool false, σ) := by
  have h1 : runA P lim (Op.equal T (.pointer (some a)) (.pointer (some a))) σ = some (true, σ) := by
    unfold Op.equal
    rw [show Op.maxDepth = 9999 + 1 from rfl]
    unfold Op.equalIn
    rw [runA_bind, runA_underlying, hT]
    dsimp only [Option.map]
    rw [runA_bind, runA_sizeOf', hi]
    dsimp only [Option.map]
    rw [if_pos hs]
    unfold sameAddr
    rw [if_pos (beq_self_eq_true _)]
    show some (a == a, σ) = _
    rw [beq_self_eq_true]
  show runA P lim (Op.equal T (.pointer (some a)) (.pointer (some a)) >>= fun b => Pure.pure (Value.bool (!b))) σ = _
  rw [runA_bind, h1]
  rfl

theorem write_next (b z r m : Nat) (c d : List Value) (lo : Lo) (qv : Option Nat) (σ σ1 : AS) (hb : σ.get b = some (Bo (Pb b) (Sl r m))) (hz : σ.get z = some (.cells c true lo none)) (hc : c.length = 9) (hone : c.all oneCell = true)
    (hr : σ.get r = some (.cells d true (some 1, some 5) qv)) (hd : d.length = m) (hm : m < 1000) (hk : σ.kill 0 qv = some σ1) (hb1 : σ1.get b = some (Bo (Pb b) (Sl r m))) (hn1 : σ1.next = σ.next) (hbn : b < σ.next) (hrb : r ≠ b) :
    runW Tryd.prog env12 0 (.call 57 [Pb b, Sl z 9]) σ = some (.val (.tuple #[.int .i64 9, .nilIface]), W2 σ σ1 b r m d c) := by
  obtain ⟨i, hi, h1, h2, h3⟩ := i5
  obtain ⟨i72, hi72, hs72⟩ : ∃ i, Tryd.prog.info? 72 = some i ∧ i.size = 2 := ⟨_, rfl, by kernel_rfl⟩
  have hb2 : ((σ1.put r (some (.cells d false (some 1, some 5) none))).push (.cells (d ++ c) true (some 1, some 5) (some r))).get b = some (Bo (Pb b) (Sl r m)) := by
    rw [get_push_ne (by rw [next_put, hn1]; omega), get_put_ne (fun h => hrb h.symm), hb1]
  exact runW_of_whole (n := 100) (hs := [(7, .is (Pb b)), (5, .is (Pb b)), (1, .sem (.bool false) σ), (5, .is (Sl r m)),
      (1, .sem (Sl σ.next (m + 9)) ((σ1.put r (some (.cells d false (some 1, some 5) none))).push (.cells (d ++ c) true (some 1, some 5) (some r)))), (2, .sem undef (W2 σ σ1 b r m d c))])
    (ob := [σ.cell? ⟨b, 0, none⟩ = some (Pb b), σ.cell? ⟨b, 0, none⟩ = some (Pb b), runA Tryd.prog 0 (binOp .neq 70 (Pb b) (Pb b)) σ = some (.bool false, σ), σ.cell? ⟨b, 1, none⟩ = some (Sl r m),
      appA Tryd.prog true 0 #[60, 60] [Sl r m, Sl z 9] σ = some (Sl σ.next (m + 9), (σ1.put r (some (.cells d false (some 1, some 5) none))).push (.cells (d ++ c) true (some 1, some 5) (some r))),
      ((σ1.put r (some (.cells d false (some 1, some 5) none))).push (.cells (d ++ c) true (some 1, some 5) (some r))).setCells 0 ⟨b, 1, none⟩ [Sl σ.next (m + 9)] 0 = some (W2 σ σ1 b r m d c)]) (by kernel_rfl)
    ⟨cell_of hb rfl, cell_of hb rfl, neq_same Tryd.underlying70 hi72 (by omega) _ _ _, cell_of hb rfl,
      append_row Tryd.underlying60 Tryd.underlying60 hi h1 h2 hz hc (by omega) (by omega) (by rw [h3]; omega) hone hr hd (by omega) hk, setCells1 hb2 (by omega) (by decide : 1 < 2) rfl⟩

theorem string_of (b r : Nat) (d : List Value) (s : List UInt8) (qv : Option Nat) (σ σ1 : AS) (hb : σ.get b = some (Bo (Pb b) (Sl r 72))) (hr : σ.get r = some (.cells d true (some 1, some 5) qv)) (hd : d.length = 72) (hs : bytesOf d = some s) (hk : σ.kill 0 qv = some σ1) :
    runW Tryd.prog env12 0 (.call 58 [Pb b]) σ = some (.val (.string ⟨s.toArray⟩), σ1.put r (some (.cells d false (some 1, some 5) none))) :=
  runW_of_whole (n := 100) (hs := [(4, .is (Sl r 72)), (4, .is (Sl r 72)), (1, .sem (.string ⟨s.toArray⟩) (σ1.put r (some (.cells d false (some 1, some 5) none))))])
    (ob := [σ.cell? ⟨b, 1, none⟩ = some (Sl r 72), σ.cell? ⟨b, 1, none⟩ = some (Sl r 72), ustrA Tryd.prog 0 #[85, 3] [Pb r, .int .i64 72] σ = some (.string ⟨s.toArray⟩, σ1.put r (some (.cells d false (some 1, some 5) none)))]) (by kernel_rfl)
    ⟨cell_of hb rfl, cell_of hb rfl, ustr_row Tryd.underlying85 (by kernel_rfl) hr hd (by omega) (by omega) (by omega) hs hk⟩
end Go.Proofs.YtakchekhpeokjaaDoor
