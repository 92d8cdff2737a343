/-
  'tempo/tempolaw36.SuperReads' returns true at every input: the row and the card.
-/
import Derived.Test.YtcjjlajpbakaoaaGreatDoorPart7
import Derived.Test.YtcjjlajpbakaoaaGreatDoorD36m
import Derived.Test.YtcjjlajpbakaoaaGreatDoorD36ba
import Derived.ChangeSlices
import Derived.ChangeMaps5
namespace Go.Proofs.YtcjjlajpbakaoaaGreatDoor
open Go.Va Go.ChangeMaps Go.ChangeShapes Go.WideShapes Go.ChangeAt Go.RowKit
namespace superReads


set_option maxRecDepth 100000 in
theorem contract (H : Type) (enc : TypeId × Value → H) (W : World) (base : Nat) (args : Array Value) (ds gs : List (DataW H)) (before : List MemPlace)
    (hval : ∀ (j : Nat) t v, Tryz.f7.params[j]? = some t → args[j]? = some v → Value.okWide Tryz.prog W .any base t v)
    (hW : DataW.Whole enc Tryz.prog Tryz.f7.params.toList Rows.superReadsSpec.vars false W args.toList ds gs before) (hS : W.ShapedOpen Tryz.prog) (hL : laidMetH Tryz.prog Rows.superReadsRow.laid W) :
    Calls Tryz.prog 7 args W fun e W' => ∃ v, e = .returned v ∧ Rows.superReadsSpec.post enc Tryz.prog Tryz.f7 false true false false W args v W' := by
  have hW' := hW
  obtain ⟨p, q, hA0, hV, rfl, hfz, hnd⟩ := hW
  have hA : DataW.TrodAll enc Tryz.prog W 0 (fun _ => true) true Tryz.f7.params.toList args.toList ds p := hA0
  rw [Tryz.params7] at hA hval
  obtain ⟨v0, vs0, d0, ds0, p0, q0, hargs, rfl, rfl, h0, r0⟩ := trodAll_cons hA
  obtain ⟨v1, vs1, d1, ds1, p1, q1, rfl, rfl, rfl, h1, r1⟩ := trodAll_cons r0
  obtain ⟨rfl, rfl, rfl⟩ := trodAll_nil r1
  obtain rfl : args = #[v0, v1] := by cases args; simp_all
  obtain ⟨rfl, rfl⟩ := trodVars_none hV
  obtain ⟨a0, len, cap, rfl⟩ := okWide_slice Tryz.underlying37 (hval 0 37 v0 rfl rfl)
  obtain ⟨fuel, hf⟩ := h0
  obtain ⟨n1, rfl, rfl, rfl, hw1⟩ := open_string Tryz.underlying9 (hval 1 9 v1 rfl rfl) h1
  clear hA0
  have hT := tabs_of hS hL
  rcases open_ints Tryz.underlying37 Tryz.underlying5 cells5 hf with ⟨hcs, hx⟩ | ⟨a, len', cap', es, hcs, _, hl, hm, hz, hx, hcell, hwz⟩
  · simp [Value.cells] at hcs
    obtain ⟨rfl, rfl, rfl⟩ := hcs
    simp only [Prod.mk.injEq] at hx
    obtain ⟨rfl, rfl⟩ := hx
    simp only [List.append_nil] at hW'
    refine ((law7_n' n1 ).calls rfl rfl Tryz.func7 rfl rfl hT).mono fun e W' ⟨he, hg⟩ => ?_
    exact ⟨_, he, post_below (pa := []) (pv := []) hW' (fun _ _ _ => trodAll_cons_mk (shut_bool Tryz.underlying4 _) trodAll_mk0) (fun _ _ => trodAll_cons_mk (shut_slice_nil Tryz.underlying37) (trodAll_cons_mk (shut_string Tryz.underlying9 hw1) (trodAll_mk0))) (fun _ _ => rfl) hg⟩
  · simp [Value.cells] at hcs
    obtain ⟨rfl, rfl, rfl⟩ := hcs
    simp only [Prod.mk.injEq] at hx
    obtain ⟨rfl, rfl⟩ := hx
    simp only [if_true] at hz
    simp only [List.append_nil, List.nil_append] at hW'
    have hcalls : Calls Tryz.prog 7 #[.slice (some a) len cap, .string n1] W fun e w' => e = .returned (.bool true) ∧ RowKit.Below W.heap.size W w' := by
      by_cases h0 : len = 0
      · subst h0
        exact callsR (law7_v' n1 ) rfl Tryz.func7 rfl rfl hT (rest_none W) ⟨.void a cap rfl, plain_rel 100 _ rfl, trivial⟩
      · obtain ⟨b, off, spot⟩ := a
        have hspot : spot = none := by simpa [Addr.add] using World.cell?_spot (hcell 0 (by omega))
        subst hspot
        have hlen : (byL (es.take len)).length = len := by unfold byL; rw [List.length_map, List.length_take]; omega
        have hr : Go.Va.Rest (zoneB b off (byL (es.take len))) W := zoneB_rest fun i hi => by
          have hi2 := hi
          rw [hlen] at hi2
          have := hcell i (by omega)
          rw [add_off] at this
          rw [this, byL_get (fun n hn => hwz n (List.mem_of_mem_take hn)) hi, List.getD_eq_getElem?_getD, List.getD_eq_getElem?_getD, List.getElem?_take, if_pos hi2]
        have hv := zone_bys (G := 9) (n := W.heap.size) (b := b) (o := off) (l := byL (es.take len)) (cap := cap) (by rw [hlen]; exact hl)
        have hp := law7_l' (byL (es.take len)) n1 (by rw [hlen]; exact h0)
        rw [hlen] at hv hp
        exact callsR hp rfl Tryz.func7 rfl rfl hT hr ⟨hv, plain_rel 100 _ rfl, trivial⟩
    refine hcalls.mono fun e W' ⟨he, hg⟩ => ?_
    have hsl : ∀ sp : Nat → Bool, (∀ p ∈ MemPlace.row a es.length, sp p.block = true) → DataW.Trod enc Tryz.prog W' 0 sp true 37 (.slice (some a) len cap) (.slice (lits .u8 (es.take len)) (lits .u8 (es.drop len))) (MemPlace.row a es.length) := fun sp hsp => by
      refine ⟨2, shut_ints 0 Tryz.underlying37 Tryz.underlying5 cells5 (Nat.zero_le _) hl hm ?_ (fun i hi => ?_) hwz⟩
      · by_cases h0 : es.length = 0
        · split <;> omega
        · have := hsp (.cell a.block (a.off + 0)) (MemPlace.mem_row.2 ⟨0, by omega, rfl⟩)
          rw [show sp a.block = true from this, if_pos rfl]; exact hz
      · exact below_cell hg (hcell i hi)
    exact ⟨_, he, post_below (pa := MemPlace.row a es.length ++ ([] ++ ([]))) (pv := []) hW' (fun _ _ _ => trodAll_cons_mk (shut_bool Tryz.underlying4 _) trodAll_mk0) (fun sp hsp => trodAll_cons_mk (hsl sp (by intro p hp; exact hsp p (by simpa using hp))) (trodAll_cons_mk (shut_string Tryz.underlying9 hw1) (trodAll_mk0))) (fun _ _ => rfl) hg⟩

theorem reads (os : Os) {H : Type} (enc : TypeId × Value → H) : ∃ places, DataW.whole enc Tryz.prog ((laidWorld os).forCall (fun _ _ => 0) ⟨#[], #[.slice none 0 0, .string ⟨#[]⟩], []⟩).memory Tryz.f7.params.toList Rows.superReadsSpec.vars false (#[.slice none 0 0, .string ⟨#[]⟩] : Array Value).toList 8 = some ([.nil, .lit (.string [])], [], places) :=
  ⟨[], by kernel_rfl⟩

set_option maxRecDepth 100000 in
theorem lifted (os : Os) (started : os.Started) (H : Type) (enc : TypeId × Value → H) (F : Stop.Interp) :
    ReturnsInHanded {} Tryz.checked os 7 .any ((OpenSpec.ofChange Rows.superReadsSpec).preRow enc Tryz.prog Tryz.f7 Rows.superReadsRow.domain false Rows.superReadsRow.laid) (((OpenSpec.ofChange Rows.superReadsSpec).at F).post enc Tryz.prog Tryz.f7 false true false false) := by
  obtain ⟨places, hx⟩ := reads os enc
  refine returnsInHanded_of_row (C := Tryz.checked) (s := OpenSpec.ofChange Rows.superReadsSpec) own started (by kernel_rfl) Tryz.func7
    (witness_row_at (enc := enc) (C := Tryz.checked) false (laidWorld os) #[.slice none 0 0, .string ⟨#[]⟩] rfl (by kernel_rfl) (by kernel_rfl) (by kernel_rfl)
      (OpenSpec.preRow_of_cond 8 hx (by kernel_rfl) (fun k hk => by cases hk) (by kernel_rfl) (laid_met os _))) ?_
  intro W base args ds gs before hval hW _ _ _ hL hS _
  exact contract H enc W base args ds gs before hval hW hS hL

theorem said : Rows.SuperReadsSaid :=
  OpenClaim.holds_of_cond 7 Tryz.f7 rfl rfl rfl rfl rfl rfl rfl ⟨rfl, rfl, rfl, rfl, rfl⟩ rfl rfl rfl rfl rfl (by kernel_rfl) Tryz.func7 (by kernel_rfl)
    (of_decide_eq_true (by kernel_rfl)) (by unfold Func.isWrapper; first | (rw [if_pos (by decide +kernel)]; kernel_rfl) | (rw [if_neg (by decide +kernel)]; exact ⟨rfl, rfl⟩))
    (fun os started H enc _ F => by rw [OpenClaim.pre_eq_preRow]; exact lifted os started H enc F)

theorem plain (f : FuncId) (fn : Func) (hf : Tryz.pinned.checked.prog.funcNamed "tempo/tempolaw36.SuperReads" = some f) (hfn : Tryz.pinned.checked.prog.funcs[f]? = some fn) :
    true = Tryz.pinned.checked.prog.looks [] ∧ ∀ (j : Nat) t, fn.params[j]? = some t → Tryz.pinned.checked.prog.wantsStandIn t = false := by
  obtain rfl : f = 7 := Option.some.inj ((show Tryz.prog.funcNamed "tempo/tempolaw36.SuperReads" = some 7 by kernel_rfl).symm.trans hf) |>.symm
  obtain rfl : fn = Tryz.f7 := (Option.some.inj (Tryz.func7.symm.trans hfn)).symm
  refine ⟨by kernel_rfl, fun j t ht => ?_⟩
  rw [Tryz.params7] at ht
  have ht := Array.mem_of_getElem? ht
  simp at ht
  rcases ht with rfl | rfl
  · exact (show Tryz.prog.wantsStandIn 37 = false by kernel_rfl)
  · exact (show Tryz.prog.wantsStandIn 9 = false by kernel_rfl)

end superReads

/-- ████ THE CARD ████ -/
theorem superReads_card : Rows.SuperReadsCardSaid :=
  Claim7.holds_tied_plain_at .later [] _ _ _ _ superReads.said (fun _ h => by cases h) (by kernel_rfl) (fun _ h => by cases h) superReads_row_tie rfl ⟨rfl, rfl⟩ (by kernel_rfl) rfl superReads.plain (by kernel_rfl)

end Go.Proofs.YtcjjlajpbakaoaaGreatDoor
