/-
  SUPERBLOCK (chapter 36): works is true.
-/
import Derived.Test.YtcjjlajpbakaoaaGreatDoorD36f
namespace Go.Proofs.YtcjjlajpbakaoaaGreatDoor
open Go.Va

def k25c (args : List Value) : Option Value :=
  match args with
  | [v] => (match asL v, asB v with
    | some (_, _, _, g), some l => bif Nat.beq g 1 then
        (bif l == zer then some (.tuple #[sup0, .int .i64 8]) else bif l == enc3 then some (.tuple #[smp 3, .int .i64 0]) else bif l == enc4 then some (.tuple #[smp 4, .int .i64 0]) else none) else none
    | _, _ => none)
  | _ => none
theorem k25c_ok : KOk Tryz.prog 9 tabs 25 k25c := by
  intro args v h
  unfold k25c at h
  split at h
  · rename_i u
    split at h
    · rename_i c n e g l hL hB
      cases hg : Nat.beq g 1 with
      | false => rw [hg] at h; cases h
      | true =>
        rw [hg, cond_true] at h
        obtain rfl := Nat.eq_of_beq_eq_true hg
        rcases asB_spec hB with ⟨rfl, _⟩ | ⟨g', _, rfl, _⟩
        · cases hL
        · have e : some (bys l, l.length, 1, g') = some (c, n, e, 1) := hL
          cases e
          cases h0 : (l == zer) with
          | true => rw [h0] at h; cases h; rw [eq_of_beq h0]; exact dec_0
          | false =>
            rw [h0, cond_false] at h
            cases h3 : (l == enc3) with
            | true => rw [h3] at h; cases h; rw [eq_of_beq h3]; exact dec_3
            | false =>
              rw [h3, cond_false] at h
              cases h4 : (l == enc4) with
              | true => rw [h4] at h; cases h; rw [eq_of_beq h4]; exact dec_4
              | false => rw [h4] at h; cases h
    · cases h
  · cases h
def t5 : Ktab := (25, k25c) :: t4
theorem t5_ok : TOk Tryz.prog 9 tabs t5 := ⟨k25c_ok, t4_ok⟩

def isVal (v : Value → Bool) : Option (Out × AS) → Bool
  | some (.val u, _) => v u
  | _ => false
def isTrue : Value → Bool
  | .bool true => true
  | _ => false
theorem isTrue_spec {r : Option (Out × AS)} (h : isVal isTrue r = true) : ∃ σ', r = some (.val (.bool true), σ') := by
  unfold isVal at h
  split at h
  · rename_i u σ'
    unfold isTrue at h
    split at h
    · exact ⟨_, rfl⟩
    · cases h
  · cases h

set_option maxRecDepth 1000000 in
theorem works_run : isVal isTrue (run Tryz.prog (envT t5) 5000 0 (.call 13 []) (base0 9 tabs)) = true := by kernel_rfl
theorem works_pure : Pure Tryz.prog 9 tabs 13 [] (.bool true) := by
  obtain ⟨σ', h⟩ := isTrue_spec works_run
  exact pureR t5_ok (runW_of h) rfl (.bool _)

end Go.Proofs.YtcjjlajpbakaoaaGreatDoor
