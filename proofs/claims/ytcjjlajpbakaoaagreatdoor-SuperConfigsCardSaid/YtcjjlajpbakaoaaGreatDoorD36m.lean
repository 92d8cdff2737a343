/-
  SUPERBLOCK (chapter 36): what the laws' rows share: the tables in the world, what the row's list gives, the witness's world.
-/
import Derived.Test.YtcjjlajpbakaoaaGreatDoorD36a
import Derived.Test.YtcjjlajpbakaoaaGreatDoorVap5
import Derived.Test.YtcjjlajpbakaoaaGreatDoorCards
import Derived.Test.YtcjjlajpbakaoaaGreatDoorTie
import Derived.WalkKit
import Derived.ProofKit
import Derived.OpenShut
import Derived.Deep.DeepHandedRow
import Derived.Lib.LaidTab
import Derived.Stop.LaidErr
import Derived.Shelf.Vars
namespace Go.Proofs.YtcjjlajpbakaoaaGreatDoor
open Go.Va Go.ChangeShapes Go.WideShapes Go.ChangeAt Go.RowKit

theorem own : ownKnob Tryz.prog.godebug = Option.none := by kernel_rfl
theorem ninth : ((((begin Tryz.prog (fun _ _ => 0) default).world.heap[8]?).bind Obj.row?).isSome) = true := by kernel_rfl
theorem globs : Tryz.prog.globals.size = 9 := by kernel_rfl
def laid36 : List (String × DataW Unit) := Rows.superLayoutsRow.laid
theorem hands36 : (laid36.filter fun x => x.2.handleName?.isSome) = [] := by kernel_rfl
theorem in0 : (laidTabs Tryz.prog laid36)[4]? = some (0, [wordV [115, 116, 97, 110, 100, 97, 114, 100], wordV [122, 101, 114, 111], wordV [115, 101, 101, 100, 101, 100]]) := by kernel_rfl
theorem in1 : (laidTabs Tryz.prog laid36)[2]? = some (1, pow10L.map fun n => .int .u64 n) := by kernel_rfl

theorem gER : Tryz.prog.globalNamed "strconv.ErrRange" = some 3 := by kernel_rfl
theorem gES : Tryz.prog.globalNamed "strconv.ErrSyntax" = some 2 := by kernel_rfl
theorem gERType : (Tryz.prog.globals[3]?).map (·.type) = some 99 := by kernel_rfl
theorem gESType : (Tryz.prog.globals[2]?).map (·.type) = some 99 := by kernel_rfl
theorem star : "*" ++ "errors.errorString" = "*errors.errorString" := by decide
theorem row212 (u : TypeId) (h : Tryz.prog.typeName? 3 u = some "*errors.errorString") : u = 212 :=
  typeName_ptr_named (nm := "errors.errorString") (by rw [star]; kernel_rfl) (by kernel_rfl) (by decide) u (by rw [star]; exact h)
theorem cells214 : Tryz.prog.cellsOf 214 = 1 := by kernel_rfl
theorem cells9 : Tryz.prog.cellsOf 9 = 1 := by kernel_rfl
/-- What an error's variable holds. -/
theorem var_any {W : World} {n : String} {g : Nat} {t : TypeId} {p : Value} (hg : Tryz.prog.globalNamed n = some g) (h : W.var? Tryz.prog n = some #[.iface t p]) :
    ∃ C ty fr, W.heap[g]? = some (.cells C ty fr) ∧ (∀ i (_ : i < [anyI].length), ∃ c, C[i]? = some c ∧ TabV [anyI][i] c) ∧ C.size = [anyI].length := by
  unfold World.var? at h
  rw [hg, Option.bind_some] at h
  split at h
  · rename_i C ty fr hh
    cases h
    refine ⟨_, ty, fr, hh, fun i hi => ⟨.iface t p, ?_, ?_⟩, rfl⟩
    · have : i = 0 := by simp at hi; exact hi
      subst this; rfl
    · have : i = 0 := by simp at hi; exact hi
      subst this
      exact .inr (.inl ⟨rfl, .inr ⟨t, p, rfl⟩⟩)
  · cases h
theorem row4 : ∃ z : Array Value, ((begin Tryz.prog (fun _ _ => 0) default).world.heap[4]?).bind Obj.row? = some (z, 3) ∧ z.size = 1 := by
  have h : (((begin Tryz.prog (fun _ _ => 0) default).world.heap[4]?).bind Obj.row?).map (fun x => (x.1.size, x.2)) = some (1, 3) := by kernel_rfl
  cases hx : ((begin Tryz.prog (fun _ _ => 0) default).world.heap[4]?).bind Obj.row? with
  | none => rw [hx] at h; cases h
  | some x =>
    rw [hx] at h
    obtain ⟨z, t⟩ := x
    simp only [Option.map_some, Option.some.injEq, Prod.mk.injEq] at h
    exact ⟨z, by rw [h.2], h.1⟩
theorem max_any {W : World} (h : W.ShapedOpen Tryz.prog) : ∃ C ty fr, W.heap[4]? = some (.cells C ty fr) ∧ (∀ i (_ : i < [anyN].length), ∃ c, C[i]? = some c ∧ TabV [anyN][i] c) ∧ C.size = [anyN].length := by
  obtain ⟨z, h0, hz⟩ := row4
  obtain ⟨m, hm⟩ := cell_of_shapedOpen_int h (by rw [globs]; decide) h0 hz (by kernel_rfl) (by kernel_rfl) Tryz.underlying3
  obtain ⟨cs, hh, hs, _⟩ := h.1 4 z 3 (by rw [globs]; decide) h0
  unfold World.cell? at hm
  dsimp only at hm
  rw [hh] at hm
  refine ⟨cs, 3, _, hh, fun i hi => ⟨.int .i64 m, ?_, ?_⟩, by rw [hs, hz]; rfl⟩
  · have : i = 0 := by simp at hi; exact hi
    subst this; exact hm
  · have : i = 0 := by simp at hi; exact hi
    subst this
    exact .inr (.inr ⟨rfl, m, rfl⟩)
theorem tabs_of {W : World} (h : W.ShapedOpen Tryz.prog) (hL : laidMetH Tryz.prog laid36 W) : Tabs 9 tabs W := by
  have h4 := max_any h
  have hL' : laidMet Tryz.prog laid36 W := by
    unfold laidMetH at hL
    rw [hands36] at hL
    exact hL
  obtain ⟨h1, _⟩ := h
  have h3 := ninth
  rw [Option.isSome_iff_exists] at h3
  obtain ⟨⟨zero, t⟩, h3⟩ := h3
  obtain ⟨cs, h4', _⟩ := h1 8 zero t (by rw [globs]; decide) h3
  rw [Array.getElem?_eq_some_iff] at h4'
  obtain ⟨h5, _⟩ := h4'
  have old : ∀ x, tabP x = true → x ∈ laidTabs Tryz.prog laid36 → ∃ C ty fr, W.heap[x.1]? = some (.cells C ty fr) ∧ (∀ i (_ : i < x.2.length), ∃ c, C[i]? = some c ∧ TabV x.2[i] c) ∧ C.size = x.2.length := fun x hp hx => by
    obtain ⟨C, ty, fr, k1, k2, k3⟩ := laidTabs_met hL' x hx
    exact ⟨C, ty, fr, k1, fun i hi => ⟨_, k2 i hi, .inl ⟨List.all_eq_true.1 hp _ (by simp), rfl⟩⟩, k3⟩
  obtain ⟨a0, s0, hv0, -, -, -⟩ := laid_sentinel hL'.tail.tail.tail.tail gER gERType Tryz.underlying99 row212 Tryz.underlying212 Tryz.underlying214 rfl rfl Tryz.underlying9 cells214 cells9
  obtain ⟨a1, s1, hv1, -, -, -⟩ := laid_sentinel hL'.tail.tail.tail.tail.tail gES gESType Tryz.underlying99 row212 Tryz.underlying212 Tryz.underlying214 rfl rfl Tryz.underlying9 cells214 cells9
  refine ⟨by omega, fun x hx => ?_⟩
  rcases List.mem_cons.1 hx with rfl | hx
  · exact old _ (by kernel_rfl) (List.mem_of_getElem? in0)
  rcases List.mem_cons.1 hx with rfl | hx
  · exact old _ (by kernel_rfl) (List.mem_of_getElem? in1)
  rcases List.mem_cons.1 hx with rfl | hx
  · exact var_any gES hv1
  rcases List.mem_cons.1 hx with rfl | hx
  · exact var_any gER hv0
  · rw [List.mem_singleton.1 hx]
    exact h4

def lay (c : Array Value) : Obj → Obj
  | .cells _ t frozen => .cells c t frozen
  | o => o
noncomputable def flat (t : TypeId) (d : DataW Unit) : Array Value := ((flatD Tryz.prog 20 t d).getD []).toArray
noncomputable def gType (g : Nat) : TypeId := ((Tryz.prog.globals[g]?).map (·.type)).getD 0
noncomputable def low : Nat := (World.holding Tryz.prog default ⟨#[], #[], []⟩).heap.size
def rangeS : ByteArray := ⟨#[118, 97, 108, 117, 101, 32, 111, 117, 116, 32, 111, 102, 32, 114, 97, 110, 103, 101]⟩
def syntaxS : ByteArray := ⟨#[105, 110, 118, 97, 108, 105, 100, 32, 115, 121, 110, 116, 97, 120]⟩
/-- A WORLD FOR THE WITNESS: the settled one, with the tables in their blocks and the two errors behind all. -/
noncomputable def laidWorld (os : Os) : World :=
  let w0 := World.holding Tryz.prog os ⟨#[.cells #[.string rangeS] 214, .cells #[.string syntaxS] 214], #[], []⟩
  { w0 with heap := (((((((w0.heap.modify 0 (lay (flat (gType 0) Rows.laid_tempo_super_words))).modify 1 (lay (flat (gType 1) Rows.laid_internal_strconv_uint64pow10))).modify 2 (lay #[.iface 212 (.pointer (some ⟨low + 1, 0, none⟩))])).modify 3 (lay #[.iface 212 (.pointer (some ⟨low, 0, none⟩))])).modify 5 (lay (flat (gType 5) Rows.laid_math_bits_deBruijn32tab))).modify 6 (lay (flat (gType 6) Rows.laid_math_bits_deBruijn64tab))).modify 7 (lay (flat (gType 7) Rows.laid_unicode_utf8_first))).modify 8 (lay (flat (gType 8) Rows.laid_unicode_utf8_acceptRanges)) }
theorem laid_met (os : Os) (args : Array Value) : laidMet Tryz.prog laid36 ((laidWorld os).forCall (fun _ _ => 0) ⟨#[], args, []⟩).memory :=
  laidMet_of_run' 8 (by kernel_rfl) (by kernel_rfl)

end Go.Proofs.YtcjjlajpbakaoaaGreatDoor
