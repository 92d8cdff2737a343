/-
  'tempo/tempolaw36.SuperTorn' returns true at every input: the row and the card.
-/
import Derived.Test.YtcjjlajpbakaoaaGreatDoorD36bf
import Derived.Test.YtcjjlajpbakaoaaGreatDoorD36m
namespace Go.Proofs.YtcjjlajpbakaoaaGreatDoor
open Go.Va Go.ChangeShapes Go.WideShapes Go.ChangeAt Go.RowKit
namespace superTorn

theorem kinds0 : kindsD Tryz.prog 4 61 = some [.u64, .u16, .u16, .u16, .u8, .u64] := by kernel_rfl
theorem kinds1 : kindsD Tryz.prog 4 61 = some [.u64, .u16, .u16, .u16, .u8, .u64] := by kernel_rfl

set_option maxRecDepth 100000 in
theorem contract (H : Type) (enc : TypeId × Value → H) (W : World) (base : Nat) (args : Array Value) (ds gs : List (DataW H)) (before : List MemPlace)
    (hval : ∀ (j : Nat) t v, Tryz.f9.params[j]? = some t → args[j]? = some v → Value.okWide Tryz.prog W .any base t v)
    (hW : DataW.Whole enc Tryz.prog Tryz.f9.params.toList Rows.superTornSpec.vars false W args.toList ds gs before) (hS : W.ShapedOpen Tryz.prog) (hL : laidMetH Tryz.prog Rows.superTornRow.laid W) :
    Calls Tryz.prog 9 args W fun e W' => ∃ v, e = .returned v ∧ Rows.superTornSpec.post enc Tryz.prog Tryz.f9 false true false false W args v W' := by
  have hW' := hW
  obtain ⟨p, q, hA0, hV, rfl, hfz, hnd⟩ := hW
  have hA : DataW.TrodAll enc Tryz.prog W 0 (fun _ => true) true Tryz.f9.params.toList args.toList ds p := hA0
  rw [Tryz.params9] at hA hval
  obtain ⟨v0, vs0, d0, ds0, p0, q0, hargs, rfl, rfl, h0, r0⟩ := trodAll_cons hA
  obtain ⟨v1, vs1, d1, ds1, p1, q1, rfl, rfl, rfl, h1, r1⟩ := trodAll_cons r0
  obtain ⟨rfl, rfl, rfl⟩ := trodAll_nil r1
  obtain rfl : args = #[v0, v1] := by cases args; simp_all
  obtain ⟨rfl, rfl⟩ := trodVars_none hV
  obtain ⟨cs0, rfl, hk0, rfl, hsh0⟩ := open_kinds 4 Tryz.underlying61 kinds0 (hval 0 61 v0 rfl rfl) h0
  obtain _ | ⟨x0_0, cs0_0⟩ := cs0
  · exact hk0.elim
  obtain ⟨⟨n0_0, rfl, hw0_0⟩, k0_0⟩ := hk0
  simp only [Lit.wf, Bool.and_eq_true, decide_eq_true_eq] at hw0_0
  obtain _ | ⟨x0_1, cs0_1⟩ := cs0_0
  · exact k0_0.elim
  obtain ⟨⟨n0_1, rfl, hw0_1⟩, k0_1⟩ := k0_0
  simp only [Lit.wf, Bool.and_eq_true, decide_eq_true_eq] at hw0_1
  obtain _ | ⟨x0_2, cs0_2⟩ := cs0_1
  · exact k0_1.elim
  obtain ⟨⟨n0_2, rfl, hw0_2⟩, k0_2⟩ := k0_1
  simp only [Lit.wf, Bool.and_eq_true, decide_eq_true_eq] at hw0_2
  obtain _ | ⟨x0_3, cs0_3⟩ := cs0_2
  · exact k0_2.elim
  obtain ⟨⟨n0_3, rfl, hw0_3⟩, k0_3⟩ := k0_2
  simp only [Lit.wf, Bool.and_eq_true, decide_eq_true_eq] at hw0_3
  obtain _ | ⟨x0_4, cs0_4⟩ := cs0_3
  · exact k0_3.elim
  obtain ⟨⟨n0_4, rfl, hw0_4⟩, k0_4⟩ := k0_3
  simp only [Lit.wf, Bool.and_eq_true, decide_eq_true_eq] at hw0_4
  obtain _ | ⟨x0_5, cs0_5⟩ := cs0_4
  · exact k0_4.elim
  obtain ⟨⟨n0_5, rfl, hw0_5⟩, k0_5⟩ := k0_4
  simp only [Lit.wf, Bool.and_eq_true, decide_eq_true_eq] at hw0_5
  obtain rfl : cs0_5 = [] := by
    cases cs0_5 with
    | nil => rfl
    | cons _ _ => exact k0_5.elim
  obtain ⟨cs1, rfl, hk1, rfl, hsh1⟩ := open_kinds 4 Tryz.underlying61 kinds1 (hval 1 61 v1 rfl rfl) h1
  obtain _ | ⟨x1_0, cs1_0⟩ := cs1
  · exact hk1.elim
  obtain ⟨⟨n1_0, rfl, hw1_0⟩, k1_0⟩ := hk1
  simp only [Lit.wf, Bool.and_eq_true, decide_eq_true_eq] at hw1_0
  obtain _ | ⟨x1_1, cs1_1⟩ := cs1_0
  · exact k1_0.elim
  obtain ⟨⟨n1_1, rfl, hw1_1⟩, k1_1⟩ := k1_0
  simp only [Lit.wf, Bool.and_eq_true, decide_eq_true_eq] at hw1_1
  obtain _ | ⟨x1_2, cs1_2⟩ := cs1_1
  · exact k1_1.elim
  obtain ⟨⟨n1_2, rfl, hw1_2⟩, k1_2⟩ := k1_1
  simp only [Lit.wf, Bool.and_eq_true, decide_eq_true_eq] at hw1_2
  obtain _ | ⟨x1_3, cs1_3⟩ := cs1_2
  · exact k1_2.elim
  obtain ⟨⟨n1_3, rfl, hw1_3⟩, k1_3⟩ := k1_2
  simp only [Lit.wf, Bool.and_eq_true, decide_eq_true_eq] at hw1_3
  obtain _ | ⟨x1_4, cs1_4⟩ := cs1_3
  · exact k1_3.elim
  obtain ⟨⟨n1_4, rfl, hw1_4⟩, k1_4⟩ := k1_3
  simp only [Lit.wf, Bool.and_eq_true, decide_eq_true_eq] at hw1_4
  obtain _ | ⟨x1_5, cs1_5⟩ := cs1_4
  · exact k1_4.elim
  obtain ⟨⟨n1_5, rfl, hw1_5⟩, k1_5⟩ := k1_4
  simp only [Lit.wf, Bool.and_eq_true, decide_eq_true_eq] at hw1_5
  obtain rfl : cs1_5 = [] := by
    cases cs1_5 with
    | nil => rfl
    | cons _ _ => exact k1_5.elim
  clear hA0
  simp only [List.append_nil] at hW'
  refine ((law9' n0_0 n0_1 n0_2 n0_3 n0_4 n0_5 n1_0 n1_1 n1_2 n1_3 n1_4 n1_5 hw0_0.1 hw0_0.2 hw0_1.1 hw0_1.2 hw0_2.1 hw0_2.2 hw0_3.1 hw0_3.2 hw0_4.1 hw0_4.2 hw0_5.1 hw0_5.2 hw1_0.1 hw1_0.2 hw1_1.1 hw1_1.2 hw1_2.1 hw1_2.2 hw1_3.1 hw1_3.2 hw1_4.1 hw1_4.2 hw1_5.1 hw1_5.2).calls rfl rfl Tryz.func9 rfl rfl (tabs_of hS hL)).mono fun e W' ⟨he, hg⟩ => ?_
  exact ⟨_, he, post_below (pa := []) (pv := []) hW' (fun _ _ _ => trodAll_cons_mk (shut_bool Tryz.underlying4 _) trodAll_mk0) (fun _ _ => trodAll_cons_mk (hsh0 _ _ _ _) (trodAll_cons_mk (hsh1 _ _ _ _) (trodAll_mk0))) (fun _ _ => rfl) hg⟩

theorem reads (os : Os) {H : Type} (enc : TypeId × Value → H) : ∃ places, DataW.whole enc Tryz.prog ((laidWorld os).forCall (fun _ _ => 0) ⟨#[], #[.agg #[.int .u64 0, .int .u16 0, .int .u16 0, .int .u16 0, .int .u8 0, .int .u64 0], .agg #[.int .u64 0, .int .u16 0, .int .u16 0, .int .u16 0, .int .u8 0, .int .u64 0]], []⟩).memory Tryz.f9.params.toList Rows.superTornSpec.vars false (#[.agg #[.int .u64 0, .int .u16 0, .int .u16 0, .int .u16 0, .int .u8 0, .int .u64 0], .agg #[.int .u64 0, .int .u16 0, .int .u16 0, .int .u16 0, .int .u8 0, .int .u64 0]] : Array Value).toList 8 = some ([.agg [.lit (.int .u64 0), .lit (.int .u16 0), .lit (.int .u16 0), .lit (.int .u16 0), .lit (.int .u8 0), .lit (.int .u64 0)], .agg [.lit (.int .u64 0), .lit (.int .u16 0), .lit (.int .u16 0), .lit (.int .u16 0), .lit (.int .u8 0), .lit (.int .u64 0)]], [], places) :=
  ⟨[], by kernel_rfl⟩

set_option maxRecDepth 100000 in
theorem lifted (os : Os) (started : os.Started) (H : Type) (enc : TypeId × Value → H) (F : Stop.Interp) :
    ReturnsInHanded {} Tryz.checked os 9 .any ((OpenSpec.ofChange Rows.superTornSpec).preRow enc Tryz.prog Tryz.f9 Rows.superTornRow.domain false Rows.superTornRow.laid) (((OpenSpec.ofChange Rows.superTornSpec).at F).post enc Tryz.prog Tryz.f9 false true false false) := by
  obtain ⟨places, hx⟩ := reads os enc
  refine returnsInHanded_of_row (C := Tryz.checked) (s := OpenSpec.ofChange Rows.superTornSpec) own started (by kernel_rfl) Tryz.func9
    (witness_row_at (enc := enc) (C := Tryz.checked) false (laidWorld os) #[.agg #[.int .u64 0, .int .u16 0, .int .u16 0, .int .u16 0, .int .u8 0, .int .u64 0], .agg #[.int .u64 0, .int .u16 0, .int .u16 0, .int .u16 0, .int .u8 0, .int .u64 0]] rfl (by kernel_rfl) (by kernel_rfl) (by kernel_rfl)
      (OpenSpec.preRow_of_cond 8 hx (by kernel_rfl) (fun k hk => by cases hk) (by kernel_rfl) (laid_met os _))) ?_
  intro W base args ds gs before hval hW _ _ _ hL hS _
  exact contract H enc W base args ds gs before hval hW hS hL

theorem said : Rows.SuperTornSaid :=
  OpenClaim.holds_of_cond 9 Tryz.f9 rfl rfl rfl rfl rfl rfl rfl ⟨rfl, rfl, rfl, rfl, rfl⟩ rfl rfl rfl rfl rfl (by kernel_rfl) Tryz.func9 (by kernel_rfl)
    (of_decide_eq_true (by kernel_rfl)) (by unfold Func.isWrapper; first | (rw [if_pos (by decide +kernel)]; kernel_rfl) | (rw [if_neg (by decide +kernel)]; exact ⟨rfl, rfl⟩))
    (fun os started H enc _ F => by rw [OpenClaim.pre_eq_preRow]; exact lifted os started H enc F)

theorem plain (f : FuncId) (fn : Func) (hf : Tryz.pinned.checked.prog.funcNamed "tempo/tempolaw36.SuperTorn" = some f) (hfn : Tryz.pinned.checked.prog.funcs[f]? = some fn) :
    true = Tryz.pinned.checked.prog.looks [] ∧ ∀ (j : Nat) t, fn.params[j]? = some t → Tryz.pinned.checked.prog.wantsStandIn t = false := by
  obtain rfl : f = 9 := Option.some.inj ((show Tryz.prog.funcNamed "tempo/tempolaw36.SuperTorn" = some 9 by kernel_rfl).symm.trans hf) |>.symm
  obtain rfl : fn = Tryz.f9 := (Option.some.inj (Tryz.func9.symm.trans hfn)).symm
  refine ⟨by kernel_rfl, fun j t ht => ?_⟩
  rw [Tryz.params9] at ht
  have ht := Array.mem_of_getElem? ht
  simp at ht
  subst ht
  exact (show Tryz.prog.wantsStandIn 61 = false by kernel_rfl)

end superTorn

/-- ████ THE CARD ████ -/
theorem superTorn_card : Rows.SuperTornCardSaid :=
  Claim7.holds_tied_plain_at .later [] _ _ _ _ superTorn.said (fun _ h => by cases h) (by kernel_rfl) (fun _ h => by cases h) superTorn_row_tie rfl ⟨rfl, rfl⟩ (by kernel_rfl) rfl superTorn.plain (by kernel_rfl)

end Go.Proofs.YtcjjlajpbakaoaaGreatDoor
