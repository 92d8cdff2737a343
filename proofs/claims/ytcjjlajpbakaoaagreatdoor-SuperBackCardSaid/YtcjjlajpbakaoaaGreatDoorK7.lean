/-
  'tempo/tempolaw36.SuperBack' returns true at every input: the row and the card.
-/
import Derived.Test.YtcjjlajpbakaoaaGreatDoorD36bt
import Derived.Test.YtcjjlajpbakaoaaGreatDoorD36m
import Derived.Test.YtcjjlajpbakaoaaGreatDoorD36ba
import Derived.ChangeSlices
namespace Go.Proofs.YtcjjlajpbakaoaaGreatDoor
open Go.Va Go.ChangeMaps Go.ChangeShapes Go.WideShapes Go.ChangeAt Go.RowKit
namespace superBack

theorem kinds0 : kindsD Tryz.prog 4 61 = some [.u64, .u16, .u16, .u16, .u8, .u64] := by kernel_rfl
theorem kinds1 : kindsD Tryz.prog 4 61 = some [.u64, .u16, .u16, .u16, .u8, .u64] := by kernel_rfl

set_option maxRecDepth 100000 in
theorem contract (H : Type) (enc : TypeId × Value → H) (W : World) (base : Nat) (args : Array Value) (ds gs : List (DataW H)) (before : List MemPlace)
    (hval : ∀ (j : Nat) t v, Tryz.f6.params[j]? = some t → args[j]? = some v → Value.okWide Tryz.prog W .any base t v)
    (hW : DataW.Whole enc Tryz.prog Tryz.f6.params.toList Rows.superBackSpec.vars false W args.toList ds gs before) (hS : W.ShapedOpen Tryz.prog) (hL : laidMetH Tryz.prog Rows.superBackRow.laid W) :
    Calls Tryz.prog 6 args W fun e W' => ∃ v, e = .returned v ∧ Rows.superBackSpec.post enc Tryz.prog Tryz.f6 false true false false W args v W' := by
  have hW' := hW
  obtain ⟨p, q, hA0, hV, rfl, hfz, hnd⟩ := hW
  have hA : DataW.TrodAll enc Tryz.prog W 0 (fun _ => true) true Tryz.f6.params.toList args.toList ds p := hA0
  rw [Tryz.params6] at hA hval
  obtain ⟨v0, vs0, d0, ds0, p0, q0, hargs, rfl, rfl, h0, r0⟩ := trodAll_cons hA
  obtain ⟨v1, vs1, d1, ds1, p1, q1, rfl, rfl, rfl, h1, r1⟩ := trodAll_cons r0
  obtain ⟨v2, vs2, d2, ds2, p2, q2, rfl, rfl, rfl, h2, r2⟩ := trodAll_cons r1
  obtain ⟨rfl, rfl, rfl⟩ := trodAll_nil r2
  obtain rfl : args = #[v0, v1, v2] := by cases args; simp_all
  obtain ⟨rfl, rfl⟩ := trodVars_none hV
  obtain ⟨cs0, rfl, hk0, rfl, hsh0⟩ := open_kinds 4 Tryz.underlying61 kinds0 (hval 0 61 v0 rfl rfl) h0
  obtain _ | ⟨x0_0, cs0_0⟩ := cs0
  · exact hk0.elim
  obtain ⟨⟨n0_0, rfl, hw0_0⟩, k0_0⟩ := hk0
  simp only [Lit.wf, Bool.and_eq_true, decide_eq_true_eq] at hw0_0
  obtain _ | ⟨x0_1, cs0_1⟩ := cs0_0
  · exact k0_0.elim
  obtain ⟨⟨n0_1, rfl, hw0_1⟩, k0_1⟩ := k0_0
  simp only [Lit.wf, Bool.and_eq_true, decide_eq_true_eq] at hw0_1
  obtain _ | ⟨x0_2, cs0_2⟩ := cs0_1
  · exact k0_1.elim
  obtain ⟨⟨n0_2, rfl, hw0_2⟩, k0_2⟩ := k0_1
  simp only [Lit.wf, Bool.and_eq_true, decide_eq_true_eq] at hw0_2
  obtain _ | ⟨x0_3, cs0_3⟩ := cs0_2
  · exact k0_2.elim
  obtain ⟨⟨n0_3, rfl, hw0_3⟩, k0_3⟩ := k0_2
  simp only [Lit.wf, Bool.and_eq_true, decide_eq_true_eq] at hw0_3
  obtain _ | ⟨x0_4, cs0_4⟩ := cs0_3
  · exact k0_3.elim
  obtain ⟨⟨n0_4, rfl, hw0_4⟩, k0_4⟩ := k0_3
  simp only [Lit.wf, Bool.and_eq_true, decide_eq_true_eq] at hw0_4
  obtain _ | ⟨x0_5, cs0_5⟩ := cs0_4
  · exact k0_4.elim
  obtain ⟨⟨n0_5, rfl, hw0_5⟩, k0_5⟩ := k0_4
  simp only [Lit.wf, Bool.and_eq_true, decide_eq_true_eq] at hw0_5
  obtain rfl : cs0_5 = [] := by
    cases cs0_5 with
    | nil => rfl
    | cons _ _ => exact k0_5.elim
  obtain ⟨cs1, rfl, hk1, rfl, hsh1⟩ := open_kinds 4 Tryz.underlying61 kinds1 (hval 1 61 v1 rfl rfl) h1
  obtain _ | ⟨x1_0, cs1_0⟩ := cs1
  · exact hk1.elim
  obtain ⟨⟨n1_0, rfl, hw1_0⟩, k1_0⟩ := hk1
  simp only [Lit.wf, Bool.and_eq_true, decide_eq_true_eq] at hw1_0
  obtain _ | ⟨x1_1, cs1_1⟩ := cs1_0
  · exact k1_0.elim
  obtain ⟨⟨n1_1, rfl, hw1_1⟩, k1_1⟩ := k1_0
  simp only [Lit.wf, Bool.and_eq_true, decide_eq_true_eq] at hw1_1
  obtain _ | ⟨x1_2, cs1_2⟩ := cs1_1
  · exact k1_1.elim
  obtain ⟨⟨n1_2, rfl, hw1_2⟩, k1_2⟩ := k1_1
  simp only [Lit.wf, Bool.and_eq_true, decide_eq_true_eq] at hw1_2
  obtain _ | ⟨x1_3, cs1_3⟩ := cs1_2
  · exact k1_2.elim
  obtain ⟨⟨n1_3, rfl, hw1_3⟩, k1_3⟩ := k1_2
  simp only [Lit.wf, Bool.and_eq_true, decide_eq_true_eq] at hw1_3
  obtain _ | ⟨x1_4, cs1_4⟩ := cs1_3
  · exact k1_3.elim
  obtain ⟨⟨n1_4, rfl, hw1_4⟩, k1_4⟩ := k1_3
  simp only [Lit.wf, Bool.and_eq_true, decide_eq_true_eq] at hw1_4
  obtain _ | ⟨x1_5, cs1_5⟩ := cs1_4
  · exact k1_4.elim
  obtain ⟨⟨n1_5, rfl, hw1_5⟩, k1_5⟩ := k1_4
  simp only [Lit.wf, Bool.and_eq_true, decide_eq_true_eq] at hw1_5
  obtain rfl : cs1_5 = [] := by
    cases cs1_5 with
    | nil => rfl
    | cons _ _ => exact k1_5.elim
  obtain ⟨a0, len, cap, rfl⟩ := okWide_slice Tryz.underlying37 (hval 2 37 v2 rfl rfl)
  obtain ⟨fuel, hf⟩ := h2
  clear hA0
  have hT := tabs_of hS hL
  rcases open_ints Tryz.underlying37 Tryz.underlying5 cells5 hf with ⟨hcs, hx⟩ | ⟨a, len', cap', es, hcs, _, hl, hm, hz, hx, hcell, hwz⟩
  · simp [Value.cells] at hcs
    obtain ⟨rfl, rfl, rfl⟩ := hcs
    simp only [Prod.mk.injEq] at hx
    obtain ⟨rfl, rfl⟩ := hx
    simp only [List.append_nil] at hW'
    refine ((law6_n' n0_0 n0_1 n0_2 n0_3 n0_4 n0_5 n1_0 n1_1 n1_2 n1_3 n1_4 n1_5 hw0_0.1 hw0_0.2 hw0_1.1 hw0_1.2 hw0_2.1 hw0_2.2 hw0_3.1 hw0_3.2 hw0_4.1 hw0_4.2 hw0_5.1 hw0_5.2 hw1_0.1 hw1_0.2 hw1_1.1 hw1_1.2 hw1_2.1 hw1_2.2 hw1_3.1 hw1_3.2 hw1_4.1 hw1_4.2 hw1_5.1 hw1_5.2).calls rfl rfl Tryz.func6 rfl rfl hT).mono fun e W' ⟨he, hg⟩ => ?_
    exact ⟨_, he, post_below (pa := []) (pv := []) hW' (fun _ _ _ => trodAll_cons_mk (shut_bool Tryz.underlying4 _) trodAll_mk0) (fun _ _ => trodAll_cons_mk (hsh0 _ _ _ _) (trodAll_cons_mk (hsh1 _ _ _ _) (trodAll_cons_mk (shut_slice_nil Tryz.underlying37) (trodAll_mk0)))) (fun _ _ => rfl) hg⟩
  · simp [Value.cells] at hcs
    obtain ⟨rfl, rfl, rfl⟩ := hcs
    simp only [Prod.mk.injEq] at hx
    obtain ⟨rfl, rfl⟩ := hx
    simp only [if_true] at hz
    simp only [List.append_nil, List.nil_append] at hW'
    have hcalls : Calls Tryz.prog 6 #[.agg ⟨[.int .u64 n0_0, .int .u16 n0_1, .int .u16 n0_2, .int .u16 n0_3, .int .u8 n0_4, .int .u64 n0_5]⟩, .agg ⟨[.int .u64 n1_0, .int .u16 n1_1, .int .u16 n1_2, .int .u16 n1_3, .int .u8 n1_4, .int .u64 n1_5]⟩, .slice (some a) len cap] W fun e w' => e = .returned (.bool true) ∧ RowKit.Below W.heap.size W w' := by
      by_cases h0 : len = 0
      · subst h0
        exact callsR (law6_v' n0_0 n0_1 n0_2 n0_3 n0_4 n0_5 n1_0 n1_1 n1_2 n1_3 n1_4 n1_5 hw0_0.1 hw0_0.2 hw0_1.1 hw0_1.2 hw0_2.1 hw0_2.2 hw0_3.1 hw0_3.2 hw0_4.1 hw0_4.2 hw0_5.1 hw0_5.2 hw1_0.1 hw1_0.2 hw1_1.1 hw1_1.2 hw1_2.1 hw1_2.2 hw1_3.1 hw1_3.2 hw1_4.1 hw1_4.2 hw1_5.1 hw1_5.2) rfl Tryz.func6 rfl rfl hT (rest_none W) ⟨plain_rel 100 _ rfl, plain_rel 100 _ rfl, .void a cap rfl, trivial⟩
      · obtain ⟨b, off, spot⟩ := a
        have hspot : spot = none := by simpa [Addr.add] using World.cell?_spot (hcell 0 (by omega))
        subst hspot
        have hlen : (byL (es.take len)).length = len := by unfold byL; rw [List.length_map, List.length_take]; omega
        have hr : Go.Va.Rest (zoneB b off (byL (es.take len))) W := zoneB_rest fun i hi => by
          have hi2 := hi
          rw [hlen] at hi2
          have := hcell i (by omega)
          rw [add_off] at this
          rw [this, byL_get (fun n hn => hwz n (List.mem_of_mem_take hn)) hi, List.getD_eq_getElem?_getD, List.getD_eq_getElem?_getD, List.getElem?_take, if_pos hi2]
        have hv := zone_bys (G := 9) (n := W.heap.size) (b := b) (o := off) (l := byL (es.take len)) (cap := cap) (by rw [hlen]; exact hl)
        have hp := law6_l' n0_0 n0_1 n0_2 n0_3 n0_4 n0_5 n1_0 n1_1 n1_2 n1_3 n1_4 n1_5 (byL (es.take len)) hw0_0.1 hw0_0.2 hw0_1.1 hw0_1.2 hw0_2.1 hw0_2.2 hw0_3.1 hw0_3.2 hw0_4.1 hw0_4.2 hw0_5.1 hw0_5.2 hw1_0.1 hw1_0.2 hw1_1.1 hw1_1.2 hw1_2.1 hw1_2.2 hw1_3.1 hw1_3.2 hw1_4.1 hw1_4.2 hw1_5.1 hw1_5.2 (by rw [hlen]; exact h0)
        rw [hlen] at hv hp
        exact callsR hp rfl Tryz.func6 rfl rfl hT hr ⟨plain_rel 100 _ rfl, plain_rel 100 _ rfl, hv, trivial⟩
    refine hcalls.mono fun e W' ⟨he, hg⟩ => ?_
    have hsl : ∀ sp : Nat → Bool, (∀ p ∈ MemPlace.row a es.length, sp p.block = true) → DataW.Trod enc Tryz.prog W' 0 sp true 37 (.slice (some a) len cap) (.slice (lits .u8 (es.take len)) (lits .u8 (es.drop len))) (MemPlace.row a es.length) := fun sp hsp => by
      refine ⟨2, shut_ints 0 Tryz.underlying37 Tryz.underlying5 cells5 (Nat.zero_le _) hl hm ?_ (fun i hi => ?_) hwz⟩
      · by_cases h0 : es.length = 0
        · split <;> omega
        · have := hsp (.cell a.block (a.off + 0)) (MemPlace.mem_row.2 ⟨0, by omega, rfl⟩)
          rw [show sp a.block = true from this, if_pos rfl]; exact hz
      · exact below_cell hg (hcell i hi)
    exact ⟨_, he, post_below (pa := [] ++ ([] ++ (MemPlace.row a es.length ++ ([])))) (pv := []) hW' (fun _ _ _ => trodAll_cons_mk (shut_bool Tryz.underlying4 _) trodAll_mk0) (fun sp hsp => trodAll_cons_mk (hsh0 _ _ _ _) (trodAll_cons_mk (hsh1 _ _ _ _) (trodAll_cons_mk (hsl sp (by intro p hp; exact hsp p (by simpa using hp))) (trodAll_mk0)))) (fun _ _ => rfl) hg⟩

theorem reads (os : Os) {H : Type} (enc : TypeId × Value → H) : ∃ places, DataW.whole enc Tryz.prog ((laidWorld os).forCall (fun _ _ => 0) ⟨#[], #[.agg #[.int .u64 0, .int .u16 0, .int .u16 0, .int .u16 0, .int .u8 0, .int .u64 0], .agg #[.int .u64 0, .int .u16 0, .int .u16 0, .int .u16 0, .int .u8 0, .int .u64 0], .slice none 0 0], []⟩).memory Tryz.f6.params.toList Rows.superBackSpec.vars false (#[.agg #[.int .u64 0, .int .u16 0, .int .u16 0, .int .u16 0, .int .u8 0, .int .u64 0], .agg #[.int .u64 0, .int .u16 0, .int .u16 0, .int .u16 0, .int .u8 0, .int .u64 0], .slice none 0 0] : Array Value).toList 8 = some ([.agg [.lit (.int .u64 0), .lit (.int .u16 0), .lit (.int .u16 0), .lit (.int .u16 0), .lit (.int .u8 0), .lit (.int .u64 0)], .agg [.lit (.int .u64 0), .lit (.int .u16 0), .lit (.int .u16 0), .lit (.int .u16 0), .lit (.int .u8 0), .lit (.int .u64 0)], .nil], [], places) :=
  ⟨[], by kernel_rfl⟩

set_option maxRecDepth 100000 in
theorem lifted (os : Os) (started : os.Started) (H : Type) (enc : TypeId × Value → H) (F : Stop.Interp) :
    ReturnsInHanded {} Tryz.checked os 6 .any ((OpenSpec.ofChange Rows.superBackSpec).preRow enc Tryz.prog Tryz.f6 Rows.superBackRow.domain false Rows.superBackRow.laid) (((OpenSpec.ofChange Rows.superBackSpec).at F).post enc Tryz.prog Tryz.f6 false true false false) := by
  obtain ⟨places, hx⟩ := reads os enc
  refine returnsInHanded_of_row (C := Tryz.checked) (s := OpenSpec.ofChange Rows.superBackSpec) own started (by kernel_rfl) Tryz.func6
    (witness_row_at (enc := enc) (C := Tryz.checked) false (laidWorld os) #[.agg #[.int .u64 0, .int .u16 0, .int .u16 0, .int .u16 0, .int .u8 0, .int .u64 0], .agg #[.int .u64 0, .int .u16 0, .int .u16 0, .int .u16 0, .int .u8 0, .int .u64 0], .slice none 0 0] rfl (by kernel_rfl) (by kernel_rfl) (by kernel_rfl)
      (OpenSpec.preRow_of_cond 8 hx (by kernel_rfl) (fun k hk => by cases hk) (by kernel_rfl) (laid_met os _))) ?_
  intro W base args ds gs before hval hW _ _ _ hL hS _
  exact contract H enc W base args ds gs before hval hW hS hL

theorem said : Rows.SuperBackSaid :=
  OpenClaim.holds_of_cond 6 Tryz.f6 rfl rfl rfl rfl rfl rfl rfl ⟨rfl, rfl, rfl, rfl, rfl⟩ rfl rfl rfl rfl rfl (by kernel_rfl) Tryz.func6 (by kernel_rfl)
    (of_decide_eq_true (by kernel_rfl)) (by unfold Func.isWrapper; first | (rw [if_pos (by decide +kernel)]; kernel_rfl) | (rw [if_neg (by decide +kernel)]; exact ⟨rfl, rfl⟩))
    (fun os started H enc _ F => by rw [OpenClaim.pre_eq_preRow]; exact lifted os started H enc F)

theorem plain (f : FuncId) (fn : Func) (hf : Tryz.pinned.checked.prog.funcNamed "tempo/tempolaw36.SuperBack" = some f) (hfn : Tryz.pinned.checked.prog.funcs[f]? = some fn) :
    true = Tryz.pinned.checked.prog.looks [] ∧ ∀ (j : Nat) t, fn.params[j]? = some t → Tryz.pinned.checked.prog.wantsStandIn t = false := by
  obtain rfl : f = 6 := Option.some.inj ((show Tryz.prog.funcNamed "tempo/tempolaw36.SuperBack" = some 6 by kernel_rfl).symm.trans hf) |>.symm
  obtain rfl : fn = Tryz.f6 := (Option.some.inj (Tryz.func6.symm.trans hfn)).symm
  refine ⟨by kernel_rfl, fun j t ht => ?_⟩
  rw [Tryz.params6] at ht
  have ht := Array.mem_of_getElem? ht
  simp at ht
  rcases ht with rfl | rfl
  · exact (show Tryz.prog.wantsStandIn 61 = false by kernel_rfl)
  · exact (show Tryz.prog.wantsStandIn 37 = false by kernel_rfl)

end superBack

/-- ████ THE CARD ████ -/
theorem superBack_card : Rows.SuperBackCardSaid :=
  Claim7.holds_tied_plain_at .later [] _ _ _ _ superBack.said (fun _ h => by cases h) (by kernel_rfl) (fun _ h => by cases h) superBack_row_tie rfl ⟨rfl, rfl⟩ (by kernel_rfl) rfl superBack.plain (by kernel_rfl)

end Go.Proofs.YtcjjlajpbakaoaaGreatDoor
