/-
  'tempo/tempolaw36.SuperRefuses' returns true at every input: the row and the card.
-/
import Derived.Test.YtcjjlajpbakaoaaGreatDoorD36x
import Derived.Test.YtcjjlajpbakaoaaGreatDoorD36m
namespace Go.Proofs.YtcjjlajpbakaoaaGreatDoor
open Go.Va Go.ChangeShapes Go.WideShapes Go.ChangeAt Go.RowKit
namespace superRefuses

theorem kinds0 : kindsD Tryz.prog 4 61 = some [.u64, .u16, .u16, .u16, .u8, .u64] := by kernel_rfl

set_option maxRecDepth 100000 in
theorem contract (H : Type) (enc : TypeId × Value → H) (W : World) (base : Nat) (args : Array Value) (ds gs : List (DataW H)) (before : List MemPlace)
    (hval : ∀ (j : Nat) t v, Tryz.f10.params[j]? = some t → args[j]? = some v → Value.okWide Tryz.prog W .any base t v)
    (hW : DataW.Whole enc Tryz.prog Tryz.f10.params.toList Rows.superRefusesSpec.vars false W args.toList ds gs before) (hS : W.ShapedOpen Tryz.prog) (hL : laidMetH Tryz.prog Rows.superRefusesRow.laid W) :
    Calls Tryz.prog 10 args W fun e W' => ∃ v, e = .returned v ∧ Rows.superRefusesSpec.post enc Tryz.prog Tryz.f10 false true false false W args v W' := by
  have hW' := hW
  obtain ⟨p, q, hA0, hV, rfl, hfz, hnd⟩ := hW
  have hA : DataW.TrodAll enc Tryz.prog W 0 (fun _ => true) true Tryz.f10.params.toList args.toList ds p := hA0
  rw [Tryz.params10] at hA hval
  obtain ⟨v0, vs0, d0, ds0, p0, q0, hargs, rfl, rfl, h0, r0⟩ := trodAll_cons hA
  obtain ⟨v1, vs1, d1, ds1, p1, q1, rfl, rfl, rfl, h1, r1⟩ := trodAll_cons r0
  obtain ⟨v2, vs2, d2, ds2, p2, q2, rfl, rfl, rfl, h2, r2⟩ := trodAll_cons r1
  obtain ⟨rfl, rfl, rfl⟩ := trodAll_nil r2
  obtain rfl : args = #[v0, v1, v2] := by cases args; simp_all
  obtain ⟨rfl, rfl⟩ := trodVars_none hV
  obtain ⟨cs0, rfl, hk0, rfl, hsh0⟩ := open_kinds 4 Tryz.underlying61 kinds0 (hval 0 61 v0 rfl rfl) h0
  obtain _ | ⟨x0_0, cs0_0⟩ := cs0
  · exact hk0.elim
  obtain ⟨⟨n0_0, rfl, hw0_0⟩, k0_0⟩ := hk0
  simp only [Lit.wf, Bool.and_eq_true, decide_eq_true_eq] at hw0_0
  obtain _ | ⟨x0_1, cs0_1⟩ := cs0_0
  · exact k0_0.elim
  obtain ⟨⟨n0_1, rfl, hw0_1⟩, k0_1⟩ := k0_0
  simp only [Lit.wf, Bool.and_eq_true, decide_eq_true_eq] at hw0_1
  obtain _ | ⟨x0_2, cs0_2⟩ := cs0_1
  · exact k0_1.elim
  obtain ⟨⟨n0_2, rfl, hw0_2⟩, k0_2⟩ := k0_1
  simp only [Lit.wf, Bool.and_eq_true, decide_eq_true_eq] at hw0_2
  obtain _ | ⟨x0_3, cs0_3⟩ := cs0_2
  · exact k0_2.elim
  obtain ⟨⟨n0_3, rfl, hw0_3⟩, k0_3⟩ := k0_2
  simp only [Lit.wf, Bool.and_eq_true, decide_eq_true_eq] at hw0_3
  obtain _ | ⟨x0_4, cs0_4⟩ := cs0_3
  · exact k0_3.elim
  obtain ⟨⟨n0_4, rfl, hw0_4⟩, k0_4⟩ := k0_3
  simp only [Lit.wf, Bool.and_eq_true, decide_eq_true_eq] at hw0_4
  obtain _ | ⟨x0_5, cs0_5⟩ := cs0_4
  · exact k0_4.elim
  obtain ⟨⟨n0_5, rfl, hw0_5⟩, k0_5⟩ := k0_4
  simp only [Lit.wf, Bool.and_eq_true, decide_eq_true_eq] at hw0_5
  obtain rfl : cs0_5 = [] := by
    cases cs0_5 with
    | nil => rfl
    | cons _ _ => exact k0_5.elim
  obtain ⟨n1, rfl, rfl, rfl, hw1⟩ := open_int Tryz.underlying5 (hval 1 5 v1 rfl rfl) h1
  have hb1 := hw1
  simp only [Lit.wf, Bool.and_eq_true, decide_eq_true_eq] at hb1
  obtain ⟨n2, rfl, rfl, rfl, hw2⟩ := open_int Tryz.underlying59 (hval 2 59 v2 rfl rfl) h2
  have hb2 := hw2
  simp only [Lit.wf, Bool.and_eq_true, decide_eq_true_eq] at hb2
  clear hA0
  simp only [List.append_nil] at hW'
  refine ((law10' n0_0 n0_1 n0_2 n0_3 n0_4 n0_5 n1 n2 hw0_0.1 hw0_0.2 hw0_1.1 hw0_1.2 hw0_2.1 hw0_2.2 hw0_3.1 hw0_3.2 hw0_4.1 hw0_4.2 hw0_5.1 hw0_5.2 hb1.1 hb1.2 hb2.1 hb2.2).calls rfl rfl Tryz.func10 rfl rfl (tabs_of hS hL)).mono fun e W' ⟨he, hg⟩ => ?_
  exact ⟨_, he, post_below (pa := []) (pv := []) hW' (fun _ _ _ => trodAll_cons_mk (shut_bool Tryz.underlying4 _) trodAll_mk0) (fun _ _ => trodAll_cons_mk (hsh0 _ _ _ _) (trodAll_cons_mk (shut_int Tryz.underlying5 hw1) (trodAll_cons_mk (shut_int Tryz.underlying59 hw2) (trodAll_mk0)))) (fun _ _ => rfl) hg⟩

theorem reads (os : Os) {H : Type} (enc : TypeId × Value → H) : ∃ places, DataW.whole enc Tryz.prog ((laidWorld os).forCall (fun _ _ => 0) ⟨#[], #[.agg #[.int .u64 0, .int .u16 0, .int .u16 0, .int .u16 0, .int .u8 0, .int .u64 0], .int .u8 0, .int .u16 0], []⟩).memory Tryz.f10.params.toList Rows.superRefusesSpec.vars false (#[.agg #[.int .u64 0, .int .u16 0, .int .u16 0, .int .u16 0, .int .u8 0, .int .u64 0], .int .u8 0, .int .u16 0] : Array Value).toList 8 = some ([.agg [.lit (.int .u64 0), .lit (.int .u16 0), .lit (.int .u16 0), .lit (.int .u16 0), .lit (.int .u8 0), .lit (.int .u64 0)], .lit (.int .u8 0), .lit (.int .u16 0)], [], places) :=
  ⟨[], by kernel_rfl⟩

set_option maxRecDepth 100000 in
theorem lifted (os : Os) (started : os.Started) (H : Type) (enc : TypeId × Value → H) (F : Stop.Interp) :
    ReturnsInHanded {} Tryz.checked os 10 .any ((OpenSpec.ofChange Rows.superRefusesSpec).preRow enc Tryz.prog Tryz.f10 Rows.superRefusesRow.domain false Rows.superRefusesRow.laid) (((OpenSpec.ofChange Rows.superRefusesSpec).at F).post enc Tryz.prog Tryz.f10 false true false false) := by
  obtain ⟨places, hx⟩ := reads os enc
  refine returnsInHanded_of_row (C := Tryz.checked) (s := OpenSpec.ofChange Rows.superRefusesSpec) own started (by kernel_rfl) Tryz.func10
    (witness_row_at (enc := enc) (C := Tryz.checked) false (laidWorld os) #[.agg #[.int .u64 0, .int .u16 0, .int .u16 0, .int .u16 0, .int .u8 0, .int .u64 0], .int .u8 0, .int .u16 0] rfl (by kernel_rfl) (by kernel_rfl) (by kernel_rfl)
      (OpenSpec.preRow_of_cond 8 hx (by kernel_rfl) (fun k hk => by cases hk) (by kernel_rfl) (laid_met os _))) ?_
  intro W base args ds gs before hval hW _ _ _ hL hS _
  exact contract H enc W base args ds gs before hval hW hS hL

theorem said : Rows.SuperRefusesSaid :=
  OpenClaim.holds_of_cond 10 Tryz.f10 rfl rfl rfl rfl rfl rfl rfl ⟨rfl, rfl, rfl, rfl, rfl⟩ rfl rfl rfl rfl rfl (by kernel_rfl) Tryz.func10 (by kernel_rfl)
    (of_decide_eq_true (by kernel_rfl)) (by unfold Func.isWrapper; first | (rw [if_pos (by decide +kernel)]; kernel_rfl) | (rw [if_neg (by decide +kernel)]; exact ⟨rfl, rfl⟩))
    (fun os started H enc _ F => by rw [OpenClaim.pre_eq_preRow]; exact lifted os started H enc F)

theorem plain (f : FuncId) (fn : Func) (hf : Tryz.pinned.checked.prog.funcNamed "tempo/tempolaw36.SuperRefuses" = some f) (hfn : Tryz.pinned.checked.prog.funcs[f]? = some fn) :
    true = Tryz.pinned.checked.prog.looks [] ∧ ∀ (j : Nat) t, fn.params[j]? = some t → Tryz.pinned.checked.prog.wantsStandIn t = false := by
  obtain rfl : f = 10 := Option.some.inj ((show Tryz.prog.funcNamed "tempo/tempolaw36.SuperRefuses" = some 10 by kernel_rfl).symm.trans hf) |>.symm
  obtain rfl : fn = Tryz.f10 := (Option.some.inj (Tryz.func10.symm.trans hfn)).symm
  refine ⟨by kernel_rfl, fun j t ht => ?_⟩
  rw [Tryz.params10] at ht
  have ht := Array.mem_of_getElem? ht
  simp at ht
  rcases ht with rfl | rfl | rfl
  · exact (show Tryz.prog.wantsStandIn 61 = false by kernel_rfl)
  · exact (show Tryz.prog.wantsStandIn 5 = false by kernel_rfl)
  · exact (show Tryz.prog.wantsStandIn 59 = false by kernel_rfl)

end superRefuses

/-- ████ THE CARD ████ -/
theorem superRefuses_card : Rows.SuperRefusesCardSaid :=
  Claim7.holds_tied_plain_at .later [] _ _ _ _ superRefuses.said (fun _ h => by cases h) (by kernel_rfl) (fun _ h => by cases h) superRefuses_row_tie rfl ⟨rfl, rfl⟩ (by kernel_rfl) rfl superRefuses.plain (by kernel_rfl)

end Go.Proofs.YtcjjlajpbakaoaaGreatDoor
