/-
  'tempo/tempolaw05.BitboardLists' returns true at every input: the row and the card.
-/
import Derived.Test.YtakchekhpeokjaaDoorPart10
import Derived.ChangeMaps5
import Derived.ChangeSlices
namespace Go.Proofs.YtakchekhpeokjaaDoor
open Go.Va Go.ChangeMaps Go.ChangeShapes Go.WideShapes Go.ChangeAt Go.RowKit
namespace bitboardLists

theorem cells3 : Tryd.prog.cellsOf 3 = 1 := by kernel_rfl
theorem below_cell {W W' : World} (hg : RowKit.Below W.heap.size W W') {a : Addr} {v : Value} (h : W.cell? a = some v) : W'.cell? a = some v := by
  unfold World.cell? at h ⊢
  cases hh : W.heap[a.block]? with
  | none => rw [hh] at h; cases hs : a.spot <;> rw [hs] at h <;> cases h
  | some x =>
    have hlt : a.block < W.heap.size := (Array.getElem?_eq_some_iff.1 hh).1
    rw [hg.block _ hlt]
    exact h

theorem contract (H : Type) (enc : TypeId × Value → H) (W : World) (base : Nat) (args : Array Value) (ds gs : List (DataW H)) (before : List MemPlace)
    (hval : ∀ (j : Nat) t v, Tryd.f10.params[j]? = some t → args[j]? = some v → Value.okWide Tryd.prog W .any base t v)
    (hW : DataW.Whole enc Tryd.prog Tryd.f10.params.toList Rows.bitboardListsSpec.vars false W args.toList ds gs before) (hS : W.ShapedOpen Tryd.prog) (hL : laidMetH Tryd.prog Rows.bitboardListsRow.laid W) :
    Calls Tryd.prog 10 args W fun e W' => ∃ v, e = .returned v ∧ Rows.bitboardListsSpec.post enc Tryd.prog Tryd.f10 false true false false W args v W' := by
  have hW' := hW
  obtain ⟨p, q, hA0, hV, rfl, hfz, hnd⟩ := hW
  have hA : DataW.TrodAll enc Tryd.prog W 0 (fun _ => true) true Tryd.f10.params.toList args.toList ds p := hA0
  rw [Tryd.params10] at hA hval
  obtain ⟨v0, vs0, d0, ds0, p0, q0, hargs, rfl, rfl, h0, r0⟩ := trodAll_cons hA
  obtain ⟨v1, vs1, d1, ds1, p1, q1, rfl, rfl, rfl, h1, r1⟩ := trodAll_cons r0
  obtain ⟨v2, vs2, d2, ds2, p2, q2, rfl, rfl, rfl, h2, r2⟩ := trodAll_cons r1
  obtain ⟨rfl, rfl, rfl⟩ := trodAll_nil r2
  obtain rfl : args = #[v0, v1, v2] := by cases args; simp_all
  obtain ⟨rfl, rfl⟩ := trodVars_none hV
  obtain ⟨n1, rfl, rfl, rfl, hw1⟩ := open_int Tryd.underlying3 (hval 1 3 v1 rfl rfl) h1
  obtain ⟨n2, rfl, rfl, rfl, hw2⟩ := open_string Tryd.underlying9 (hval 2 9 v2 rfl rfl) h2
  have hb1 := hw1
  simp only [Lit.wf, Bool.and_eq_true, decide_eq_true_eq] at hb1
  obtain ⟨a0, len, cap, rfl⟩ := okWide_slice Tryd.underlying31 (hval 0 31 v0 rfl rfl)
  obtain ⟨fuel, hf⟩ := h0
  clear hA0
  have hT := tabs_of3 hS hL
  rcases open_ints Tryd.underlying31 Tryd.underlying3 cells3 hf with ⟨hcs, hx⟩ | ⟨a, len', cap', es, hcs, _, hl, hm, hz, hx, hcell, hwz⟩
  · simp [Value.cells] at hcs
    obtain ⟨rfl, rfl, rfl⟩ := hcs
    simp only [Prod.mk.injEq] at hx
    obtain ⟨rfl, rfl⟩ := hx
    simp only [List.append_nil] at hW'
    refine ((law10_z n1 n2).calls rfl rfl Tryd.func10 rfl rfl hT).mono fun e W' ⟨he, hg⟩ => ?_
    exact ⟨_, he, post_below (pa := []) (pv := []) hW' (fun _ _ _ => trodAll_cons_mk (shut_bool Tryd.underlying4 _) trodAll_mk0) (fun _ _ => trodAll_cons_mk (shut_slice_nil Tryd.underlying31) (trodAll_cons_mk (shut_int Tryd.underlying3 hw1) (trodAll_cons_mk (shut_string Tryd.underlying9 hw2) (trodAll_mk0)))) (fun _ _ => rfl) hg⟩
  · simp [Value.cells] at hcs
    obtain ⟨rfl, rfl, rfl⟩ := hcs
    simp only [Prod.mk.injEq] at hx
    obtain ⟨rfl, rfl⟩ := hx
    simp only [if_true] at hz
    simp only [List.append_nil] at hW'
    have hcalls : Calls Tryd.prog 10 #[.slice (some a) len cap, .int .i64 n1, .string n2] W fun e w' => e = .returned (.bool true) ∧ RowKit.Below W.heap.size W w' := by
      by_cases h0 : len = 0
      · subst h0
        exact callsR (law10_v n1 n2) rfl Tryd.func10 rfl rfl hT (rest_none W) ⟨.void a cap rfl, .int _ _, .string _, trivial⟩
      · obtain ⟨b, off, spot⟩ := a
        have hspot : spot = none := by simpa [Addr.add] using World.cell?_spot (hcell 0 (by omega))
        subst hspot
        have hlen : (es.take len).length = len := by rw [List.length_take]; omega
        have hr : Go.Va.Rest (zoneOf b off (es.take len)) W := zone_rest fun i hi => by
          rw [hlen] at hi
          have := hcell i (by omega)
          rw [add_off] at this
          rw [this, List.getD_eq_getElem?_getD, List.getD_eq_getElem?_getD, List.getElem?_take, if_pos hi]
        have hv := zone_lst (G := 4) (n := W.heap.size) (b := b) (o := off) (l := es.take len) (cap := cap) (by rw [hlen]; exact hl)
        rw [hlen] at hv
        have hp := law10_l (es.take len) n1 n2
        rw [hlen] at hp
        exact callsR hp rfl Tryd.func10 rfl rfl hT hr ⟨hv, .int _ _, .string _, trivial⟩
    refine hcalls.mono fun e W' ⟨he, hg⟩ => ?_
    have hsl : ∀ sp : Nat → Bool, (∀ p ∈ MemPlace.row a es.length, sp p.block = true) → DataW.Trod enc Tryd.prog W' 0 sp true 31 (.slice (some a) len cap) (.slice (lits .i64 (es.take len)) (lits .i64 (es.drop len))) (MemPlace.row a es.length) := fun sp hsp => by
      refine ⟨2, shut_ints 0 Tryd.underlying31 Tryd.underlying3 cells3 (Nat.zero_le _) hl hm ?_ (fun i hi => ?_) hwz⟩
      · by_cases h0 : es.length = 0
        · split <;> omega
        · have := hsp (.cell a.block (a.off + 0)) (MemPlace.mem_row.2 ⟨0, by omega, rfl⟩)
          rw [show sp a.block = true from this, if_pos rfl]; exact hz
      · exact below_cell hg (hcell i hi)
    exact ⟨_, he, post_below (pa := MemPlace.row a es.length ++ ([] ++ ([] ++ []))) (pv := []) hW' (fun _ _ _ => trodAll_cons_mk (shut_bool Tryd.underlying4 _) trodAll_mk0) (fun sp hsp => trodAll_cons_mk (hsl sp hsp) (trodAll_cons_mk (shut_int Tryd.underlying3 hw1) (trodAll_cons_mk (shut_string Tryd.underlying9 hw2) (trodAll_mk0)))) (fun _ _ => rfl) hg⟩

theorem laid_met (os : Os) : laidMet Tryd.prog Rows.bitboardListsRow.laid ((laidWorld3 os).forCall (fun _ _ => 0) ⟨#[], #[.slice none 0 0, .int .i64 0, .string ⟨#[]⟩], []⟩).memory :=
  laidMet_of_run' 8 (by kernel_rfl) (by kernel_rfl)
theorem reads (os : Os) {H : Type} (enc : TypeId × Value → H) : ∃ places, DataW.whole enc Tryd.prog ((laidWorld3 os).forCall (fun _ _ => 0) ⟨#[], #[.slice none 0 0, .int .i64 0, .string ⟨#[]⟩], []⟩).memory Tryd.f10.params.toList Rows.bitboardListsSpec.vars false (#[.slice none 0 0, .int .i64 0, .string ⟨#[]⟩] : Array Value).toList 8 = some ([.nil, .lit (.int .i64 0), .lit (.string [])], [], places) :=
  ⟨[], by kernel_rfl⟩

set_option maxRecDepth 100000 in
theorem lifted (os : Os) (started : os.Started) (H : Type) (enc : TypeId × Value → H) (F : Stop.Interp) :
    ReturnsInHanded {} Tryd.checked os 10 .any ((OpenSpec.ofChange Rows.bitboardListsSpec).preRow enc Tryd.prog Tryd.f10 Rows.bitboardListsRow.domain false Rows.bitboardListsRow.laid) (((OpenSpec.ofChange Rows.bitboardListsSpec).at F).post enc Tryd.prog Tryd.f10 false true false false) := by
  obtain ⟨places, hx⟩ := reads os enc
  refine returnsInHanded_of_row (C := Tryd.checked) (s := OpenSpec.ofChange Rows.bitboardListsSpec) own started (by kernel_rfl) Tryd.func10
    (witness_row_at (enc := enc) (C := Tryd.checked) false (laidWorld3 os) #[.slice none 0 0, .int .i64 0, .string ⟨#[]⟩] rfl (by kernel_rfl) (by kernel_rfl) (by kernel_rfl)
      (OpenSpec.preRow_of_cond 8 hx (by kernel_rfl) (fun k hk => by cases hk) (by kernel_rfl) (laid_met os))) ?_
  intro W base args ds gs before hval hW _ _ _ hL hS _
  exact contract H enc W base args ds gs before hval hW hS hL

theorem said : Rows.BitboardListsSaid :=
  OpenClaim.holds_of_cond 10 Tryd.f10 rfl rfl rfl rfl rfl rfl rfl ⟨rfl, rfl, rfl, rfl, rfl⟩ rfl rfl rfl rfl rfl (by kernel_rfl) Tryd.func10 (by kernel_rfl)
    (of_decide_eq_true (by kernel_rfl)) (by unfold Func.isWrapper; first | (rw [if_pos (by decide +kernel)]; kernel_rfl) | (rw [if_neg (by decide +kernel)]; exact ⟨rfl, rfl⟩))
    (fun os started H enc _ F => by rw [OpenClaim.pre_eq_preRow]; exact lifted os started H enc F)

theorem plain (f : FuncId) (fn : Func) (hf : Tryd.pinned.checked.prog.funcNamed "tempo/tempolaw05.BitboardLists" = some f) (hfn : Tryd.pinned.checked.prog.funcs[f]? = some fn) :
    false = Tryd.pinned.checked.prog.looks [] ∧ ∀ (j : Nat) t, fn.params[j]? = some t → Tryd.pinned.checked.prog.wantsStandIn t = false := by
  obtain rfl : f = 10 := Option.some.inj ((show Tryd.prog.funcNamed "tempo/tempolaw05.BitboardLists" = some 10 by kernel_rfl).symm.trans hf) |>.symm
  obtain rfl : fn = Tryd.f10 := (Option.some.inj (Tryd.func10.symm.trans hfn)).symm
  refine ⟨by kernel_rfl, fun j t ht => ?_⟩
  rw [Tryd.params10] at ht
  have ht := Array.mem_of_getElem? ht
  simp at ht
  rcases ht with rfl | rfl | rfl
  · exact (show Tryd.prog.wantsStandIn 31 = false by kernel_rfl)
  · exact (show Tryd.prog.wantsStandIn 3 = false by kernel_rfl)
  · exact (show Tryd.prog.wantsStandIn 9 = false by kernel_rfl)

end bitboardLists

/-- ████ THE CARD ████ -/
theorem bitboardLists_card : Rows.BitboardListsCardSaid :=
  Claim7.holds_tied_plain_at .later [] _ _ _ _ bitboardLists.said (fun _ h => by cases h) (by kernel_rfl) (fun _ h => by cases h) bitboardLists_row_tie rfl ⟨rfl, rfl⟩ (by kernel_rfl) rfl bitboardLists.plain (by kernel_rfl)

end Go.Proofs.YtakchekhpeokjaaDoor

