/-
  BITBOARD (chapter 05): an environment in which List and slices.Equal are replaced.
-/
import Derived.Test.YtakchekhpeokjaaDoorD05s
namespace Go.Proofs.YtakchekhpeokjaaDoor
open Go.Va

def natZ (l : List Nat) : List Int := l.map fun n : Nat => (n : Int)
theorem zs_natZ (l : List Nat) : zs (natZ l) = ints l := by unfold zs natZ ints; rw [List.map_map]; rfl
theorem natZ_len (l : List Nat) : (natZ l).length = l.length := by unfold natZ; rw [List.length_map]
/-- A list of numbers of 64 at most. -/
theorem lstV_IsZ {l : List Nat} (h : l.length ≤ 64) : IsZ (lstV l) (natZ l) := by
  unfold lstV
  split
  · exact .inl ⟨rfl, rfl, trivial⟩
  · refine .inr ⟨0, by omega, ?_, ?_⟩
    · rw [zs_natZ, natZ_len]
    · rw [natZ_len]; omega
theorem IsZ_L {l : List Nat} {n g : Nat} (hn : l.length = n) (hg : g ≤ 1) (h : n < 4611686018427387904) : IsZ (L (ints l) n 1 g) (natZ l) :=
  .inr ⟨g, hg, by rw [zs_natZ, natZ_len, hn], by rw [natZ_len, hn]; exact h⟩
theorem IsZ_nil : IsZ (.slice none 0 0) (natZ []) := .inl ⟨rfl, rfl, trivial⟩
def k15 : List Value → Option Value
  | [.int .u64 s] => bif inU s then some (lstV (bitsL (BitVec.ofInt 64 s))) else none
  | _ => none
theorem k15_u (x : BitVec 64) : k15 [.int .u64 (u x)] = some (lstV (bitsL x)) := by
  unfold k15
  dsimp only
  rw [inU_u, cond_true, show BitVec.ofInt 64 (u x) = x from ofInt_u x]
noncomputable def t7 : Ktab := (15, k15) :: (16, k16) :: t6
theorem t7_ok : TOk Tryd.prog 4 tabs t7 := by
  refine ⟨?_, p16, t6_ok⟩
  intro args v h
  unfold k15 at h
  split at h
  · rename_i s
    cases hs : inU s with
    | false => rw [hs] at h; cases h
    | true =>
      rw [hs] at h
      cases h
      have := p15 (BitVec.ofInt 64 s)
      rw [← ofInt_inU hs] at this
      exact this
  · cases h
noncomputable def env7 : Env := envT t7
set_option maxRecDepth 100000 in
theorem fns7 : fnB Tryd.prog 4 env7 okL = true := by kernel_rfl
/-- A replaced function of the table. -/
theorem envK {l : Ktab} {f : FuncId} {args : List Value} {lim : Nat} {σ : AS} {v : Value} (h1 : Nat.beq f 76 = false) (h2 : Nat.beq f 81 = false) (h3 : args.map strip = args) (h4 : args.all (flatB 100) = true) (h : pfT l f args = some v) :
    (envT l).ov f args lim σ = some (v, σ) := envT_ov h1 h2 (pureOv_of (by rw [h3]; exact h4) (by rw [h3]; exact h))
theorem ov7_52 (x : BitVec 64) (lim : Nat) (σ : AS) : env7.ov 52 [.int .u64 (u x)] lim σ = some (.int .i64 (tz x), σ) :=
  envK rfl rfl rfl rfl (by unfold t7; rw [pfT_ne rfl, pfT_ne rfl, pf52]; exact k52_u x)
theorem ov7_15 (x : BitVec 64) (lim : Nat) (σ : AS) : env7.ov 15 [.int .u64 (u x)] lim σ = some (lstV (bitsL x), σ) :=
  envK rfl rfl rfl rfl (by unfold t7; rw [pfT_eq]; exact k15_u x)
theorem pf7_16 (args : List Value) : pfT t7 16 args = k16 args := by
  unfold t7; rw [pfT_ne rfl, pfT_eq]
theorem strip_L (c : List Value) (n e : Nat) : ∀ g, strip (L c n e (g + 2)) = L c n e 0 := fun _ => rfl
/-- slices.Equal of lists that may grow. -/
theorem ov7_16 {a b a' b' : Value} {l m : List Int} (lim : Nat) (σ : AS) (ea : strip a = a') (eb : strip b = b') (ha : IsZ a' l) (hb : IsZ b' m) : env7.ov 16 [a, b] lim σ = some (.bool (l == m), σ) := by
  have fl : ∀ {v : Value} {l : List Int}, IsZ v l → flatB 100 v = true := by
    intro v l h
    rcases h with ⟨e, _⟩ | ⟨g, hg, e, _⟩
    · rw [e]; rfl
    · rw [e]
      show Nat.ble g 1 = true
      exact Nat.ble_eq_true_of_le hg
  refine envT_ov rfl rfl (pureOv_of ?_ ?_)
  · show (flatB 100 (strip a) && (flatB 100 (strip b) && true)) = true
    rw [ea, eb, fl ha, fl hb]; rfl
  · show pfT t7 16 [strip a, strip b] = _
    rw [ea, eb, pf7_16, k16_eq ha hb]
end Go.Proofs.YtakchekhpeokjaaDoor
