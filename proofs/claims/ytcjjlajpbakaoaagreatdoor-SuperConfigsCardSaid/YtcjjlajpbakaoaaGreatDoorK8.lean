/-
  'tempo/tempolaw36.SuperConfigs' returns true at every input: the row and the card.
-/
import Derived.Test.YtcjjlajpbakaoaaGreatDoorPart7
import Derived.Test.YtcjjlajpbakaoaaGreatDoorD36m
import Derived.ChangeMaps5
namespace Go.Proofs.YtcjjlajpbakaoaaGreatDoor
open Go.Va Go.ChangeMaps Go.ChangeShapes Go.WideShapes Go.ChangeAt Go.RowKit
namespace superConfigs

theorem kinds0 : kindsD Tryz.prog 4 24 = some [.i64, .i64, .i64, .i64, .u64] := by kernel_rfl

set_option maxRecDepth 100000 in
theorem contract (H : Type) (enc : TypeId × Value → H) (W : World) (base : Nat) (args : Array Value) (ds gs : List (DataW H)) (before : List MemPlace)
    (hval : ∀ (j : Nat) t v, Tryz.f3.params[j]? = some t → args[j]? = some v → Value.okWide Tryz.prog W .any base t v)
    (hW : DataW.Whole enc Tryz.prog Tryz.f3.params.toList Rows.superConfigsSpec.vars false W args.toList ds gs before) (hS : W.ShapedOpen Tryz.prog) (hL : laidMetH Tryz.prog Rows.superConfigsRow.laid W) :
    Calls Tryz.prog 3 args W fun e W' => ∃ v, e = .returned v ∧ Rows.superConfigsSpec.post enc Tryz.prog Tryz.f3 false true false false W args v W' := by
  have hW' := hW
  obtain ⟨p, q, hA0, hV, rfl, hfz, hnd⟩ := hW
  have hA : DataW.TrodAll enc Tryz.prog W 0 (fun _ => true) true Tryz.f3.params.toList args.toList ds p := hA0
  rw [Tryz.params3] at hA hval
  obtain ⟨v0, vs0, d0, ds0, p0, q0, hargs, rfl, rfl, h0, r0⟩ := trodAll_cons hA
  obtain ⟨v1, vs1, d1, ds1, p1, q1, rfl, rfl, rfl, h1, r1⟩ := trodAll_cons r0
  obtain ⟨rfl, rfl, rfl⟩ := trodAll_nil r1
  obtain rfl : args = #[v0, v1] := by cases args; simp_all
  obtain ⟨rfl, rfl⟩ := trodVars_none hV
  obtain ⟨cs0, rfl, hk0, rfl, hsh0⟩ := open_kinds 4 Tryz.underlying24 kinds0 (hval 0 24 v0 rfl rfl) h0
  obtain _ | ⟨x0_0, cs0_0⟩ := cs0
  · exact hk0.elim
  obtain ⟨⟨n0_0, rfl, hw0_0⟩, k0_0⟩ := hk0
  simp only [Lit.wf, Bool.and_eq_true, decide_eq_true_eq] at hw0_0
  obtain _ | ⟨x0_1, cs0_1⟩ := cs0_0
  · exact k0_0.elim
  obtain ⟨⟨n0_1, rfl, hw0_1⟩, k0_1⟩ := k0_0
  simp only [Lit.wf, Bool.and_eq_true, decide_eq_true_eq] at hw0_1
  obtain _ | ⟨x0_2, cs0_2⟩ := cs0_1
  · exact k0_1.elim
  obtain ⟨⟨n0_2, rfl, hw0_2⟩, k0_2⟩ := k0_1
  simp only [Lit.wf, Bool.and_eq_true, decide_eq_true_eq] at hw0_2
  obtain _ | ⟨x0_3, cs0_3⟩ := cs0_2
  · exact k0_2.elim
  obtain ⟨⟨n0_3, rfl, hw0_3⟩, k0_3⟩ := k0_2
  simp only [Lit.wf, Bool.and_eq_true, decide_eq_true_eq] at hw0_3
  obtain _ | ⟨x0_4, cs0_4⟩ := cs0_3
  · exact k0_3.elim
  obtain ⟨⟨n0_4, rfl, hw0_4⟩, k0_4⟩ := k0_3
  simp only [Lit.wf, Bool.and_eq_true, decide_eq_true_eq] at hw0_4
  obtain rfl : cs0_4 = [] := by
    cases cs0_4 with
    | nil => rfl
    | cons _ _ => exact k0_4.elim
  obtain ⟨n1, rfl, rfl, rfl, hw1⟩ := open_string Tryz.underlying9 (hval 1 9 v1 rfl rfl) h1
  clear hA0
  simp only [List.append_nil] at hW'
  refine ((law3' n0_0 n0_1 n0_2 n0_3 n0_4 n1 hw0_0.1 hw0_0.2 hw0_1.1 hw0_1.2 hw0_2.1 hw0_2.2 hw0_3.1 hw0_3.2 hw0_4.1 hw0_4.2).calls rfl rfl Tryz.func3 rfl rfl (tabs_of hS hL)).mono fun e W' ⟨he, hg⟩ => ?_
  exact ⟨_, he, post_below (pa := []) (pv := []) hW' (fun _ _ _ => trodAll_cons_mk (shut_bool Tryz.underlying4 _) trodAll_mk0) (fun _ _ => trodAll_cons_mk (hsh0 _ _ _ _) (trodAll_cons_mk (shut_string Tryz.underlying9 hw1) (trodAll_mk0))) (fun _ _ => rfl) hg⟩

theorem reads (os : Os) {H : Type} (enc : TypeId × Value → H) : ∃ places, DataW.whole enc Tryz.prog ((laidWorld os).forCall (fun _ _ => 0) ⟨#[], #[.agg #[.int .i64 0, .int .i64 0, .int .i64 0, .int .i64 0, .int .u64 0], .string ⟨#[]⟩], []⟩).memory Tryz.f3.params.toList Rows.superConfigsSpec.vars false (#[.agg #[.int .i64 0, .int .i64 0, .int .i64 0, .int .i64 0, .int .u64 0], .string ⟨#[]⟩] : Array Value).toList 8 = some ([.agg [.lit (.int .i64 0), .lit (.int .i64 0), .lit (.int .i64 0), .lit (.int .i64 0), .lit (.int .u64 0)], .lit (.string [])], [], places) :=
  ⟨[], by kernel_rfl⟩

set_option maxRecDepth 100000 in
theorem lifted (os : Os) (started : os.Started) (H : Type) (enc : TypeId × Value → H) (F : Stop.Interp) :
    ReturnsInHanded {} Tryz.checked os 3 .any ((OpenSpec.ofChange Rows.superConfigsSpec).preRow enc Tryz.prog Tryz.f3 Rows.superConfigsRow.domain false Rows.superConfigsRow.laid) (((OpenSpec.ofChange Rows.superConfigsSpec).at F).post enc Tryz.prog Tryz.f3 false true false false) := by
  obtain ⟨places, hx⟩ := reads os enc
  refine returnsInHanded_of_row (C := Tryz.checked) (s := OpenSpec.ofChange Rows.superConfigsSpec) own started (by kernel_rfl) Tryz.func3
    (witness_row_at (enc := enc) (C := Tryz.checked) false (laidWorld os) #[.agg #[.int .i64 0, .int .i64 0, .int .i64 0, .int .i64 0, .int .u64 0], .string ⟨#[]⟩] rfl (by kernel_rfl) (by kernel_rfl) (by kernel_rfl)
      (OpenSpec.preRow_of_cond 8 hx (by kernel_rfl) (fun k hk => by cases hk) (by kernel_rfl) (laid_met os _))) ?_
  intro W base args ds gs before hval hW _ _ _ hL hS _
  exact contract H enc W base args ds gs before hval hW hS hL

theorem said : Rows.SuperConfigsSaid :=
  OpenClaim.holds_of_cond 3 Tryz.f3 rfl rfl rfl rfl rfl rfl rfl ⟨rfl, rfl, rfl, rfl, rfl⟩ rfl rfl rfl rfl rfl (by kernel_rfl) Tryz.func3 (by kernel_rfl)
    (of_decide_eq_true (by kernel_rfl)) (by unfold Func.isWrapper; first | (rw [if_pos (by decide +kernel)]; kernel_rfl) | (rw [if_neg (by decide +kernel)]; exact ⟨rfl, rfl⟩))
    (fun os started H enc _ F => by rw [OpenClaim.pre_eq_preRow]; exact lifted os started H enc F)

theorem plain (f : FuncId) (fn : Func) (hf : Tryz.pinned.checked.prog.funcNamed "tempo/tempolaw36.SuperConfigs" = some f) (hfn : Tryz.pinned.checked.prog.funcs[f]? = some fn) :
    true = Tryz.pinned.checked.prog.looks [] ∧ ∀ (j : Nat) t, fn.params[j]? = some t → Tryz.pinned.checked.prog.wantsStandIn t = false := by
  obtain rfl : f = 3 := Option.some.inj ((show Tryz.prog.funcNamed "tempo/tempolaw36.SuperConfigs" = some 3 by kernel_rfl).symm.trans hf) |>.symm
  obtain rfl : fn = Tryz.f3 := (Option.some.inj (Tryz.func3.symm.trans hfn)).symm
  refine ⟨by kernel_rfl, fun j t ht => ?_⟩
  rw [Tryz.params3] at ht
  have ht := Array.mem_of_getElem? ht
  simp at ht
  rcases ht with rfl | rfl
  · exact (show Tryz.prog.wantsStandIn 24 = false by kernel_rfl)
  · exact (show Tryz.prog.wantsStandIn 9 = false by kernel_rfl)

end superConfigs

/-- ████ THE CARD ████ -/
theorem superConfigs_card : Rows.SuperConfigsCardSaid :=
  Claim7.holds_tied_plain_at .later [] _ _ _ _ superConfigs.said (fun _ h => by cases h) (by kernel_rfl) (fun _ h => by cases h) superConfigs_row_tie rfl ⟨rfl, rfl⟩ (by kernel_rfl) rfl superConfigs.plain (by kernel_rfl)

end Go.Proofs.YtcjjlajpbakaoaaGreatDoor
