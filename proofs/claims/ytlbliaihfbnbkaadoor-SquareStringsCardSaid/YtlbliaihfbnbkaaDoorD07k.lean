/-
  SQUARE (chapter 07): both Parse functions answer alike; the functions of numbers and strings replaced by what they answer.
-/
import Derived.Test.YtlbliaihfbnbkaaDoorD07j
import Derived.Laws.Strings
namespace Go.Proofs.YtlbliaihfbnbkaaDoor
open Go.Va

theorem nm_iff (s : ByteArray) {j : Int} (h0 : 0 ≤ j) (h1 : j < 64) : nm s j = true ↔ s.data.toList = [UInt8.ofNat (97 + j.toNat % 8), UInt8.ofNat (49 + j.toNat / 8)] := by
  unfold nm
  rw [ByteArray.toList_eq, ByteArray.toList_eq, beq_iff_eq]
  have : nameS j = nameOf j := by simp [nameS, inB_true h0 h1]
  rw [this]
  show [UInt8.ofNat (97 + j.toNat % 8), UInt8.ofNat (49 + j.toNat / 8)] = _ ↔ _
  exact ⟨fun h => h.symm, fun h => h.symm⟩

theorem ofNat_toNat {n : Nat} (h : n < 256) : (UInt8.ofNat n).toNat = n := by simp [UInt8.toNat_ofNat', Nat.mod_eq_of_lt h]

theorem parseI_name {j : Int} (h0 : 0 ≤ j) (h1 : j < 64) {s : ByteArray} (hs : s.data.toList = [UInt8.ofNat (97 + j.toNat % 8), UInt8.ofNat (49 + j.toNat / 8)]) : parseB s = true ∧ parseI s = j := by
  have e1 : (UInt8.ofNat (97 + j.toNat % 8)).toNat = 97 + j.toNat % 8 := ofNat_toNat (by omega)
  have e2 : (UInt8.ofNat (49 + j.toNat / 8)).toNat = 49 + j.toNat / 8 := ofNat_toNat (by omega)
  have ho : okBytes (UInt8.ofNat (97 + j.toNat % 8)) (UInt8.ofNat (49 + j.toNat / 8)) = true := okBytes_iff.2 (by omega)
  unfold parseB parseI
  rw [hs]
  dsimp only
  refine ⟨ho, ?_⟩
  rw [ho, cond_true, e1, e2]
  omega

theorem name_parse {s : ByteArray} (h : parseB s = true) : 0 ≤ parseI s ∧ parseI s < 64 ∧ s.data.toList = [UInt8.ofNat (97 + (parseI s).toNat % 8), UInt8.ofNat (49 + (parseI s).toNat / 8)] := by
  unfold parseB at h
  unfold parseI
  split at h
  · rename_i a b hs
    rw [h, cond_true]
    rw [okBytes_iff] at h
    refine ⟨by omega, by omega, ?_⟩
    rw [hs]
    congr 1
    · rw [show 97 + (8 * ((b.toNat : Int) - 49) + ((a.toNat : Int) - 97)).toNat % 8 = a.toNat by omega]; simp
    · congr 1
      rw [show 49 + (8 * ((b.toNat : Int) - 49) + ((a.toNat : Int) - 97)).toNat / 8 = b.toNat by omega]; simp
  · cases h

theorem p24 (s : ByteArray) : Pure Tryd.prog 3 [] 24 [.string s] (parseV s) := by
  cases hb : parseB s with
  | true =>
    obtain ⟨h0, h1, hs⟩ := name_parse hb
    rw [show parseV s = .tuple #[.int .i64 (parseI s), .int .i64 0] by simp [parseV, formOr, hb]]
    refine p24_found s _ h0 h1 ((nm_iff s h0 h1).2 hs) fun j h2 h3 => ?_
    cases hn : nm s j with
    | false => rfl
    | true =>
      have := (parseI_name h2 (by omega) ((nm_iff s h2 (by omega)).1 hn)).2
      omega
  | false =>
    rw [parse_bad (s := s)]
    · refine p24_none s fun j h2 h3 => ?_
      cases hn : nm s j with
      | false => rfl
      | true =>
        have := (parseI_name h2 h3 ((nm_iff s h2 h3).1 hn)).1
        rw [hb] at this; cases this
    · intro a b hs
      unfold parseB at hb
      rw [hs] at hb
      exact hb

def pfB : FuncId → List Value → Option Value
  | 23, [.string s] => some (parseV s)
  | 24, [.string s] => some (parseV s)
  | f, args => pfA f args
def isBov (f : Nat) : Bool := Nat.beq f 54 || (Nat.ble 10 f && Nat.ble f 24)
def envB : Env := pureEnv (fun f => okL.contains f) plans rws isBov pfB

theorem pfB_pure : ∀ f args v, isBov f = true → pfB f args = some v → Pure Tryd.prog 3 [] f args v := by
  intro f args v hi hp
  unfold pfB at hp
  split at hp
  · cases hp; exact p23 _
  · cases hp; exact p24 _
  · rename_i h23 h24
    cases ha : isA f with
    | true => exact pfA_pure f args v ha hp
    | false =>
      have hf : f = 23 ∨ f = 24 := by
        by_cases h54 : f = 54
        · subst h54; cases ha
        · by_cases hle : 10 ≤ f ∧ f ≤ 22
          · have : isA f = true := by simp [isA, hle.1, hle.2]
            rw [ha] at this; cases this
          · simp only [isBov, Bool.or_eq_true, Bool.and_eq_true, Nat.ble_eq] at hi
            rcases hi with hi | hi
            · exact absurd (Nat.eq_of_beq_eq_true hi) h54
            · omega
      rcases hf with rfl | rfl <;> (unfold pfA at hp; cases hp)

set_option maxRecDepth 100000 in
theorem fnsB : fnB Tryd.prog 3 envB okL = true := by kernel_rfl
theorem fnOkB : FnOk Tryd.prog 3 envB := fnOk_of rfl fnsB

theorem pureB {n : Nat} {f : FuncId} {args : List Value} {v : Value} (hs : List (Nat × Hint)) (ob : List Prop)
    (hr : upshot (runH Tryd.prog envB n 0 (.call f args) (base0 3 []) ⟨hs, []⟩) = some (v, ob)) (ho : All ob) (ha : args.all (plainB 100) = true) (hv : plainB 100 v = true) : Pure Tryd.prog 3 [] f args v :=
  pureP pfB_pure fnOkB hs ob hr ho (strip_plain hv) (plain_PF 100 v hv)

end Go.Proofs.YtlbliaihfbnbkaaDoor
