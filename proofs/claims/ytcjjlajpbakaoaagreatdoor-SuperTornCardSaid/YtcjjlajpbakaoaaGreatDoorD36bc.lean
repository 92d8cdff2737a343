/-
  SUPERBLOCK (chapter 36): sector.Tear.
-/
import Derived.Test.YtcjjlajpbakaoaaGreatDoorD36bb
namespace Go.Proofs.YtcjjlajpbakaoaaGreatDoor
open Go.Va

set_option maxRecDepth 100000 in
theorem tear_raw (x0 x1 x2 x3 x4 x5 x6 x7 x8 x9 x10 x11 x12 x13 x14 x15 x16 x17 x18 x19 x20 x21 x22 x23 x24 x25 x26 x27 x28 x29 x30 x31 x32 x33 x34 x35 x36 x37 x38 x39 x40 x41 x42 x43 x44 x45 x46 x47 x48 x49 x50 x51 x52 x53 x54 x55 x56 x57 x58 x59 x60 x61 x62 x63 x64 x65 x66 x67 x68 x69 x70 x71 x72 x73 x74 x75 x76 x77 x78 x79 x80 x81 x82 x83 x84 x85 x86 x87 x88 x89 x90 x91 x92 x93 x94 x95 x96 x97 x98 x99 x100 x101 x102 x103 x104 x105 x106 x107 x108 x109 x110 x111 x112 x113 x114 x115 x116 x117 x118 x119 x120 x121 x122 x123 x124 x125 x126 x127 k : Int) (c d w : List Value) (g g' : Nat) (h1 : decide (k < 0) = false) (h2 : decide (k > 128) = false) (l1 : loadL Tryz.prog 125 c 0 = some (.agg ⟨[.int .u8 x0, .int .u8 x1, .int .u8 x2, .int .u8 x3, .int .u8 x4, .int .u8 x5, .int .u8 x6, .int .u8 x7, .int .u8 x8, .int .u8 x9, .int .u8 x10, .int .u8 x11, .int .u8 x12, .int .u8 x13, .int .u8 x14, .int .u8 x15, .int .u8 x16, .int .u8 x17, .int .u8 x18, .int .u8 x19, .int .u8 x20, .int .u8 x21, .int .u8 x22, .int .u8 x23, .int .u8 x24, .int .u8 x25, .int .u8 x26, .int .u8 x27, .int .u8 x28, .int .u8 x29, .int .u8 x30, .int .u8 x31, .int .u8 x32, .int .u8 x33, .int .u8 x34, .int .u8 x35, .int .u8 x36, .int .u8 x37, .int .u8 x38, .int .u8 x39, .int .u8 x40, .int .u8 x41, .int .u8 x42, .int .u8 x43, .int .u8 x44, .int .u8 x45, .int .u8 x46, .int .u8 x47, .int .u8 x48, .int .u8 x49, .int .u8 x50, .int .u8 x51, .int .u8 x52, .int .u8 x53, .int .u8 x54, .int .u8 x55, .int .u8 x56, .int .u8 x57, .int .u8 x58, .int .u8 x59, .int .u8 x60, .int .u8 x61, .int .u8 x62, .int .u8 x63, .int .u8 x64, .int .u8 x65, .int .u8 x66, .int .u8 x67, .int .u8 x68, .int .u8 x69, .int .u8 x70, .int .u8 x71, .int .u8 x72, .int .u8 x73, .int .u8 x74, .int .u8 x75, .int .u8 x76, .int .u8 x77, .int .u8 x78, .int .u8 x79, .int .u8 x80, .int .u8 x81, .int .u8 x82, .int .u8 x83, .int .u8 x84, .int .u8 x85, .int .u8 x86, .int .u8 x87, .int .u8 x88, .int .u8 x89, .int .u8 x90, .int .u8 x91, .int .u8 x92, .int .u8 x93, .int .u8 x94, .int .u8 x95, .int .u8 x96, .int .u8 x97, .int .u8 x98, .int .u8 x99, .int .u8 x100, .int .u8 x101, .int .u8 x102, .int .u8 x103, .int .u8 x104, .int .u8 x105, .int .u8 x106, .int .u8 x107, .int .u8 x108, .int .u8 x109, .int .u8 x110, .int .u8 x111, .int .u8 x112, .int .u8 x113, .int .u8 x114, .int .u8 x115, .int .u8 x116, .int .u8 x117, .int .u8 x118, .int .u8 x119, .int .u8 x120, .int .u8 x121, .int .u8 x122, .int .u8 x123, .int .u8 x124, .int .u8 x125, .int .u8 x126, .int .u8 x127]⟩))
    (q1 : cpyA Tryz.prog 0 #[37, 37] [.slice (some ⟨9, 0, none⟩) 128 128, L (d.take (k.toNat * 1)) k.toNat 1 0] (ST [.int .u8 x0, .int .u8 x1, .int .u8 x2, .int .u8 x3, .int .u8 x4, .int .u8 x5, .int .u8 x6, .int .u8 x7, .int .u8 x8, .int .u8 x9, .int .u8 x10, .int .u8 x11, .int .u8 x12, .int .u8 x13, .int .u8 x14, .int .u8 x15, .int .u8 x16, .int .u8 x17, .int .u8 x18, .int .u8 x19, .int .u8 x20, .int .u8 x21, .int .u8 x22, .int .u8 x23, .int .u8 x24, .int .u8 x25, .int .u8 x26, .int .u8 x27, .int .u8 x28, .int .u8 x29, .int .u8 x30, .int .u8 x31, .int .u8 x32, .int .u8 x33, .int .u8 x34, .int .u8 x35, .int .u8 x36, .int .u8 x37, .int .u8 x38, .int .u8 x39, .int .u8 x40, .int .u8 x41, .int .u8 x42, .int .u8 x43, .int .u8 x44, .int .u8 x45, .int .u8 x46, .int .u8 x47, .int .u8 x48, .int .u8 x49, .int .u8 x50, .int .u8 x51, .int .u8 x52, .int .u8 x53, .int .u8 x54, .int .u8 x55, .int .u8 x56, .int .u8 x57, .int .u8 x58, .int .u8 x59, .int .u8 x60, .int .u8 x61, .int .u8 x62, .int .u8 x63, .int .u8 x64, .int .u8 x65, .int .u8 x66, .int .u8 x67, .int .u8 x68, .int .u8 x69, .int .u8 x70, .int .u8 x71, .int .u8 x72, .int .u8 x73, .int .u8 x74, .int .u8 x75, .int .u8 x76, .int .u8 x77, .int .u8 x78, .int .u8 x79, .int .u8 x80, .int .u8 x81, .int .u8 x82, .int .u8 x83, .int .u8 x84, .int .u8 x85, .int .u8 x86, .int .u8 x87, .int .u8 x88, .int .u8 x89, .int .u8 x90, .int .u8 x91, .int .u8 x92, .int .u8 x93, .int .u8 x94, .int .u8 x95, .int .u8 x96, .int .u8 x97, .int .u8 x98, .int .u8 x99, .int .u8 x100, .int .u8 x101, .int .u8 x102, .int .u8 x103, .int .u8 x104, .int .u8 x105, .int .u8 x106, .int .u8 x107, .int .u8 x108, .int .u8 x109, .int .u8 x110, .int .u8 x111, .int .u8 x112, .int .u8 x113, .int .u8 x114, .int .u8 x115, .int .u8 x116, .int .u8 x117, .int .u8 x118, .int .u8 x119, .int .u8 x120, .int .u8 x121, .int .u8 x122, .int .u8 x123, .int .u8 x124, .int .u8 x125, .int .u8 x126, .int .u8 x127]) = some (.int .i64 k, ST w))
    (q2 : freezeB 0 (.slice (some ⟨9, 0, none⟩) 128 128) (ST w) = some (L w 128 1 1, (ST w).put 9 none)) (hv : PF (.tuple #[L w 128 1 1, .int .i64 0])) :
    Pure Tryz.prog 9 tabs 31 [L c 128 1 g, L d 128 1 g', .int .i64 k] (.tuple #[L w 128 1 1, .int .i64 0]) :=
  pureT t3_ok (n := 2000) (v := .tuple #[L w 128 1 1, .int .i64 0]) [(14, .br false), (3, .br false), (2, .is (.agg ⟨[.int .u8 x0, .int .u8 x1, .int .u8 x2, .int .u8 x3, .int .u8 x4, .int .u8 x5, .int .u8 x6, .int .u8 x7, .int .u8 x8, .int .u8 x9, .int .u8 x10, .int .u8 x11, .int .u8 x12, .int .u8 x13, .int .u8 x14, .int .u8 x15, .int .u8 x16, .int .u8 x17, .int .u8 x18, .int .u8 x19, .int .u8 x20, .int .u8 x21, .int .u8 x22, .int .u8 x23, .int .u8 x24, .int .u8 x25, .int .u8 x26, .int .u8 x27, .int .u8 x28, .int .u8 x29, .int .u8 x30, .int .u8 x31, .int .u8 x32, .int .u8 x33, .int .u8 x34, .int .u8 x35, .int .u8 x36, .int .u8 x37, .int .u8 x38, .int .u8 x39, .int .u8 x40, .int .u8 x41, .int .u8 x42, .int .u8 x43, .int .u8 x44, .int .u8 x45, .int .u8 x46, .int .u8 x47, .int .u8 x48, .int .u8 x49, .int .u8 x50, .int .u8 x51, .int .u8 x52, .int .u8 x53, .int .u8 x54, .int .u8 x55, .int .u8 x56, .int .u8 x57, .int .u8 x58, .int .u8 x59, .int .u8 x60, .int .u8 x61, .int .u8 x62, .int .u8 x63, .int .u8 x64, .int .u8 x65, .int .u8 x66, .int .u8 x67, .int .u8 x68, .int .u8 x69, .int .u8 x70, .int .u8 x71, .int .u8 x72, .int .u8 x73, .int .u8 x74, .int .u8 x75, .int .u8 x76, .int .u8 x77, .int .u8 x78, .int .u8 x79, .int .u8 x80, .int .u8 x81, .int .u8 x82, .int .u8 x83, .int .u8 x84, .int .u8 x85, .int .u8 x86, .int .u8 x87, .int .u8 x88, .int .u8 x89, .int .u8 x90, .int .u8 x91, .int .u8 x92, .int .u8 x93, .int .u8 x94, .int .u8 x95, .int .u8 x96, .int .u8 x97, .int .u8 x98, .int .u8 x99, .int .u8 x100, .int .u8 x101, .int .u8 x102, .int .u8 x103, .int .u8 x104, .int .u8 x105, .int .u8 x106, .int .u8 x107, .int .u8 x108, .int .u8 x109, .int .u8 x110, .int .u8 x111, .int .u8 x112, .int .u8 x113, .int .u8 x114, .int .u8 x115, .int .u8 x116, .int .u8 x117, .int .u8 x118, .int .u8 x119, .int .u8 x120, .int .u8 x121, .int .u8 x122, .int .u8 x123, .int .u8 x124, .int .u8 x125, .int .u8 x126, .int .u8 x127]⟩)), (5, .ok), (0, .res (.int .i64 k) (ST w)), (0, .sem (L w 128 1 1) ((ST w).put 9 none))]
    [decide (k < 0) = false, decide (k > 128) = false, loadL Tryz.prog 125 c 0 = some (.agg ⟨[.int .u8 x0, .int .u8 x1, .int .u8 x2, .int .u8 x3, .int .u8 x4, .int .u8 x5, .int .u8 x6, .int .u8 x7, .int .u8 x8, .int .u8 x9, .int .u8 x10, .int .u8 x11, .int .u8 x12, .int .u8 x13, .int .u8 x14, .int .u8 x15, .int .u8 x16, .int .u8 x17, .int .u8 x18, .int .u8 x19, .int .u8 x20, .int .u8 x21, .int .u8 x22, .int .u8 x23, .int .u8 x24, .int .u8 x25, .int .u8 x26, .int .u8 x27, .int .u8 x28, .int .u8 x29, .int .u8 x30, .int .u8 x31, .int .u8 x32, .int .u8 x33, .int .u8 x34, .int .u8 x35, .int .u8 x36, .int .u8 x37, .int .u8 x38, .int .u8 x39, .int .u8 x40, .int .u8 x41, .int .u8 x42, .int .u8 x43, .int .u8 x44, .int .u8 x45, .int .u8 x46, .int .u8 x47, .int .u8 x48, .int .u8 x49, .int .u8 x50, .int .u8 x51, .int .u8 x52, .int .u8 x53, .int .u8 x54, .int .u8 x55, .int .u8 x56, .int .u8 x57, .int .u8 x58, .int .u8 x59, .int .u8 x60, .int .u8 x61, .int .u8 x62, .int .u8 x63, .int .u8 x64, .int .u8 x65, .int .u8 x66, .int .u8 x67, .int .u8 x68, .int .u8 x69, .int .u8 x70, .int .u8 x71, .int .u8 x72, .int .u8 x73, .int .u8 x74, .int .u8 x75, .int .u8 x76, .int .u8 x77, .int .u8 x78, .int .u8 x79, .int .u8 x80, .int .u8 x81, .int .u8 x82, .int .u8 x83, .int .u8 x84, .int .u8 x85, .int .u8 x86, .int .u8 x87, .int .u8 x88, .int .u8 x89, .int .u8 x90, .int .u8 x91, .int .u8 x92, .int .u8 x93, .int .u8 x94, .int .u8 x95, .int .u8 x96, .int .u8 x97, .int .u8 x98, .int .u8 x99, .int .u8 x100, .int .u8 x101, .int .u8 x102, .int .u8 x103, .int .u8 x104, .int .u8 x105, .int .u8 x106, .int .u8 x107, .int .u8 x108, .int .u8 x109, .int .u8 x110, .int .u8 x111, .int .u8 x112, .int .u8 x113, .int .u8 x114, .int .u8 x115, .int .u8 x116, .int .u8 x117, .int .u8 x118, .int .u8 x119, .int .u8 x120, .int .u8 x121, .int .u8 x122, .int .u8 x123, .int .u8 x124, .int .u8 x125, .int .u8 x126, .int .u8 x127]⟩), (0 : Int) ≤ k ∧ k ≤ 128,
     cpyA Tryz.prog 0 #[37, 37] [.slice (some ⟨9, 0, none⟩) 128 128, L (d.take (k.toNat * 1)) k.toNat 1 0] (ST [.int .u8 x0, .int .u8 x1, .int .u8 x2, .int .u8 x3, .int .u8 x4, .int .u8 x5, .int .u8 x6, .int .u8 x7, .int .u8 x8, .int .u8 x9, .int .u8 x10, .int .u8 x11, .int .u8 x12, .int .u8 x13, .int .u8 x14, .int .u8 x15, .int .u8 x16, .int .u8 x17, .int .u8 x18, .int .u8 x19, .int .u8 x20, .int .u8 x21, .int .u8 x22, .int .u8 x23, .int .u8 x24, .int .u8 x25, .int .u8 x26, .int .u8 x27, .int .u8 x28, .int .u8 x29, .int .u8 x30, .int .u8 x31, .int .u8 x32, .int .u8 x33, .int .u8 x34, .int .u8 x35, .int .u8 x36, .int .u8 x37, .int .u8 x38, .int .u8 x39, .int .u8 x40, .int .u8 x41, .int .u8 x42, .int .u8 x43, .int .u8 x44, .int .u8 x45, .int .u8 x46, .int .u8 x47, .int .u8 x48, .int .u8 x49, .int .u8 x50, .int .u8 x51, .int .u8 x52, .int .u8 x53, .int .u8 x54, .int .u8 x55, .int .u8 x56, .int .u8 x57, .int .u8 x58, .int .u8 x59, .int .u8 x60, .int .u8 x61, .int .u8 x62, .int .u8 x63, .int .u8 x64, .int .u8 x65, .int .u8 x66, .int .u8 x67, .int .u8 x68, .int .u8 x69, .int .u8 x70, .int .u8 x71, .int .u8 x72, .int .u8 x73, .int .u8 x74, .int .u8 x75, .int .u8 x76, .int .u8 x77, .int .u8 x78, .int .u8 x79, .int .u8 x80, .int .u8 x81, .int .u8 x82, .int .u8 x83, .int .u8 x84, .int .u8 x85, .int .u8 x86, .int .u8 x87, .int .u8 x88, .int .u8 x89, .int .u8 x90, .int .u8 x91, .int .u8 x92, .int .u8 x93, .int .u8 x94, .int .u8 x95, .int .u8 x96, .int .u8 x97, .int .u8 x98, .int .u8 x99, .int .u8 x100, .int .u8 x101, .int .u8 x102, .int .u8 x103, .int .u8 x104, .int .u8 x105, .int .u8 x106, .int .u8 x107, .int .u8 x108, .int .u8 x109, .int .u8 x110, .int .u8 x111, .int .u8 x112, .int .u8 x113, .int .u8 x114, .int .u8 x115, .int .u8 x116, .int .u8 x117, .int .u8 x118, .int .u8 x119, .int .u8 x120, .int .u8 x121, .int .u8 x122, .int .u8 x123, .int .u8 x124, .int .u8 x125, .int .u8 x126, .int .u8 x127]) = some (.int .i64 k, ST w), freezeB 0 (.slice (some ⟨9, 0, none⟩) 128 128) (ST w) = some (L w 128 1 1, (ST w).put 9 none)] (by kernel_rfl)
    ⟨h1, h2, l1, ⟨by have := of_decide_eq_false h1; omega, by have := of_decide_eq_false h2; omega⟩, q1, q2⟩ rfl hv
theorem bys_all (l : List UInt8) : (bys l).all oneCell = true := by
  rw [List.all_eq_true]
  intro v hv
  obtain ⟨x, _, rfl⟩ := List.mem_map.1 hv
  rfl
theorem bys_cellOk (l : List UInt8) : ((bys l).map strip).all cellOk = true := by
  rw [List.all_eq_true]
  intro v hv
  obtain ⟨u, hu, rfl⟩ := List.mem_map.1 hv
  obtain ⟨x, _, rfl⟩ := List.mem_map.1 hu
  rfl
theorem bys_strip (l : List UInt8) : (bys l).map strip = bys l := by
  unfold bys
  rw [List.map_map]
  rfl
theorem bys_len (l : List UInt8) : (bys l).length = l.length := by unfold bys; simp
/-- The two halves. -/
def torn (l m : List UInt8) (k : Nat) : List UInt8 := m.take k ++ l.drop k
theorem torn_len {l m : List UInt8} {k : Nat} (hl : l.length = 128) (hm : m.length = 128) (hk : k ≤ 128) : (torn l m k).length = 128 := by unfold torn; simp; omega
theorem ST_get (w : List Value) : (ST w).get 9 = some (.cells w true (none, some 125) none) := by kernel_rfl
theorem ST_put (w w' : List Value) : (ST w).put 9 (some (.cells w' true (none, some 125) none)) = ST w' := by kernel_rfl
theorem cpy_of (w d : List Value) (n : Nat) (hn : n ≤ 128) (hd : d.length = 128) (hw : w.length = 128) (ho : d.all oneCell = true) : cpyA Tryz.prog 0 #[37, 37] [.slice (some ⟨9, 0, none⟩) 128 128, L (d.take (n * 1)) n 1 0] (ST w) = some (.int .i64 (n : Int), ST (d.take n ++ w.drop n)) := by
  have e : cpyA Tryz.prog 0 #[37, 37] [.slice (some ⟨9, 0, none⟩) 128 128, L (d.take (n * 1)) n 1 0] (ST w) = (match (ST w).setCells 0 ⟨9, 0, none⟩ ((d.take (n * 1)).take (min n 128 * 1)) 0 with
    | some σ' => some (goInt ((min n 128 : Nat) : Int), σ')
    | none => none) := by kernel_rfl
  rw [e, Nat.min_eq_left hn, Nat.mul_one, List.take_take, Nat.min_self, setCells_all (Nat.zero_le _) _ _ _ _ _ (ST_get w) (by rw [List.length_take]; omega) (by
    rw [List.all_eq_true] at ho ⊢
    intro v hv
    exact ho v (List.mem_of_mem_take hv))]
  dsimp only
  rw [ST_put]
  unfold spl
  rw [Nat.zero_add, List.take_zero, List.nil_append, List.length_take, hd, Nat.min_eq_left hn, Nat.zero_add]
  rfl
theorem frz_of (l : List UInt8) (hl : l.length = 128) : freezeB 0 (.slice (some ⟨9, 0, none⟩) 128 128) (ST (bys l)) = some (L (bys l) 128 1 1, (ST (bys l)).put 9 none) := by
  have e : freezeB 0 (.slice (some ⟨9, 0, none⟩) 128 128) (ST (bys l)) = (bif Nat.ble 0 9 && Nat.beq 128 128 && Nat.beq (bys l).length 128 && ((bys l).map strip).all cellOk then some (L ((bys l).map strip) 128 1 1, (ST (bys l)).put 9 none) else none) := by kernel_rfl
  rw [e, bys_cellOk, bys_len, hl, bys_strip]
  rfl
set_option maxRecDepth 100000 in
theorem p31 (l m : List UInt8) (k g g' : Nat) (hl : l.length = 128) (hm : m.length = 128) (hk : k ≤ 128) : Pure Tryz.prog 9 tabs 31 [L (bys l) 128 1 g, L (bys m) 128 1 g', .int .i64 (k : Int)] (.tuple #[L (bys (torn l m k)) 128 1 1, .int .i64 0]) := by
  have hX : bys l = (List.range 128).map fun i => Value.int .u8 ((l.getD i 0).toNat : Int) := by
    apply List.ext_getElem?
    intro i
    by_cases h : i < 128
    · rw [bys_get, List.getElem?_map, List.getElem?_range h, List.getElem?_eq_getElem (by omega)]
      show some (Value.int .u8 (l[i].toNat : Int)) = some (Value.int .u8 ((l.getD i 0).toNat : Int))
      rw [List.getD_eq_getElem?_getD, List.getElem?_eq_getElem (by omega)]
      rfl
    · rw [List.getElem?_eq_none (by rw [bys_len]; omega), List.getElem?_eq_none (by simp; omega)]
  have l1 : loadL Tryz.prog 125 (bys l) 0 = some (.agg ⟨(List.range 128).map fun i => Value.int .u8 ((l.getD i 0).toNat : Int)⟩) := by
    rw [← hX]
    have e : loadL Tryz.prog 125 (bys l) 0 = (bif Nat.ble (0 + 128) (bys l).length then some (Value.agg ⟨((bys l).drop 0).take 128⟩) else none) := by kernel_rfl
    rw [e, bys_len, hl, List.drop_zero, List.take_of_length_le (by rw [bys_len]; omega)]
    rfl
  have q1 := cpy_of (bys l) (bys m) k hk (by rw [bys_len, hm]) (by rw [bys_len, hl]) (bys_all m)
  rw [show (bys m).take k ++ (bys l).drop k = bys (torn l m k) by rw [bys_take, bys_drop, bys_app]; rfl] at q1
  rw [hX] at q1
  have q2 := frz_of (torn l m k) (torn_len hl hm hk)
  exact tear_raw ((l.getD 0 0).toNat : Int) ((l.getD 1 0).toNat : Int) ((l.getD 2 0).toNat : Int) ((l.getD 3 0).toNat : Int) ((l.getD 4 0).toNat : Int) ((l.getD 5 0).toNat : Int) ((l.getD 6 0).toNat : Int) ((l.getD 7 0).toNat : Int) ((l.getD 8 0).toNat : Int) ((l.getD 9 0).toNat : Int) ((l.getD 10 0).toNat : Int) ((l.getD 11 0).toNat : Int) ((l.getD 12 0).toNat : Int) ((l.getD 13 0).toNat : Int) ((l.getD 14 0).toNat : Int) ((l.getD 15 0).toNat : Int) ((l.getD 16 0).toNat : Int) ((l.getD 17 0).toNat : Int) ((l.getD 18 0).toNat : Int) ((l.getD 19 0).toNat : Int) ((l.getD 20 0).toNat : Int) ((l.getD 21 0).toNat : Int) ((l.getD 22 0).toNat : Int) ((l.getD 23 0).toNat : Int) ((l.getD 24 0).toNat : Int) ((l.getD 25 0).toNat : Int) ((l.getD 26 0).toNat : Int) ((l.getD 27 0).toNat : Int) ((l.getD 28 0).toNat : Int) ((l.getD 29 0).toNat : Int) ((l.getD 30 0).toNat : Int) ((l.getD 31 0).toNat : Int) ((l.getD 32 0).toNat : Int) ((l.getD 33 0).toNat : Int) ((l.getD 34 0).toNat : Int) ((l.getD 35 0).toNat : Int) ((l.getD 36 0).toNat : Int) ((l.getD 37 0).toNat : Int) ((l.getD 38 0).toNat : Int) ((l.getD 39 0).toNat : Int) ((l.getD 40 0).toNat : Int) ((l.getD 41 0).toNat : Int) ((l.getD 42 0).toNat : Int) ((l.getD 43 0).toNat : Int) ((l.getD 44 0).toNat : Int) ((l.getD 45 0).toNat : Int) ((l.getD 46 0).toNat : Int) ((l.getD 47 0).toNat : Int) ((l.getD 48 0).toNat : Int) ((l.getD 49 0).toNat : Int) ((l.getD 50 0).toNat : Int) ((l.getD 51 0).toNat : Int) ((l.getD 52 0).toNat : Int) ((l.getD 53 0).toNat : Int) ((l.getD 54 0).toNat : Int) ((l.getD 55 0).toNat : Int) ((l.getD 56 0).toNat : Int) ((l.getD 57 0).toNat : Int) ((l.getD 58 0).toNat : Int) ((l.getD 59 0).toNat : Int) ((l.getD 60 0).toNat : Int) ((l.getD 61 0).toNat : Int) ((l.getD 62 0).toNat : Int) ((l.getD 63 0).toNat : Int) ((l.getD 64 0).toNat : Int) ((l.getD 65 0).toNat : Int) ((l.getD 66 0).toNat : Int) ((l.getD 67 0).toNat : Int) ((l.getD 68 0).toNat : Int) ((l.getD 69 0).toNat : Int) ((l.getD 70 0).toNat : Int) ((l.getD 71 0).toNat : Int) ((l.getD 72 0).toNat : Int) ((l.getD 73 0).toNat : Int) ((l.getD 74 0).toNat : Int) ((l.getD 75 0).toNat : Int) ((l.getD 76 0).toNat : Int) ((l.getD 77 0).toNat : Int) ((l.getD 78 0).toNat : Int) ((l.getD 79 0).toNat : Int) ((l.getD 80 0).toNat : Int) ((l.getD 81 0).toNat : Int) ((l.getD 82 0).toNat : Int) ((l.getD 83 0).toNat : Int) ((l.getD 84 0).toNat : Int) ((l.getD 85 0).toNat : Int) ((l.getD 86 0).toNat : Int) ((l.getD 87 0).toNat : Int) ((l.getD 88 0).toNat : Int) ((l.getD 89 0).toNat : Int) ((l.getD 90 0).toNat : Int) ((l.getD 91 0).toNat : Int) ((l.getD 92 0).toNat : Int) ((l.getD 93 0).toNat : Int) ((l.getD 94 0).toNat : Int) ((l.getD 95 0).toNat : Int) ((l.getD 96 0).toNat : Int) ((l.getD 97 0).toNat : Int) ((l.getD 98 0).toNat : Int) ((l.getD 99 0).toNat : Int) ((l.getD 100 0).toNat : Int) ((l.getD 101 0).toNat : Int) ((l.getD 102 0).toNat : Int) ((l.getD 103 0).toNat : Int) ((l.getD 104 0).toNat : Int) ((l.getD 105 0).toNat : Int) ((l.getD 106 0).toNat : Int) ((l.getD 107 0).toNat : Int) ((l.getD 108 0).toNat : Int) ((l.getD 109 0).toNat : Int) ((l.getD 110 0).toNat : Int) ((l.getD 111 0).toNat : Int) ((l.getD 112 0).toNat : Int) ((l.getD 113 0).toNat : Int) ((l.getD 114 0).toNat : Int) ((l.getD 115 0).toNat : Int) ((l.getD 116 0).toNat : Int) ((l.getD 117 0).toNat : Int) ((l.getD 118 0).toNat : Int) ((l.getD 119 0).toNat : Int) ((l.getD 120 0).toNat : Int) ((l.getD 121 0).toNat : Int) ((l.getD 122 0).toNat : Int) ((l.getD 123 0).toNat : Int) ((l.getD 124 0).toNat : Int) ((l.getD 125 0).toNat : Int) ((l.getD 126 0).toNat : Int) ((l.getD 127 0).toNat : Int) (k : Int) (bys l) (bys m) (bys (torn l m k)) g g' (decide_eq_false (by omega)) (decide_eq_false (by omega)) l1 (by rw [Int.toNat_natCast]; exact q1) q2 (PF_pair (PF_list (by omega) (bys_PF _)) (.int _ _))

def k31 : List Value → Option Value
  | [u, v, .int .i64 k] => (match asL u, asL v, asB u, asB v with
    | some _, some _, some l, some m => bif Nat.beq l.length 128 && Nat.beq m.length 128 && decide (0 ≤ k) && decide (k ≤ 128) then some (.tuple #[L (bys (torn l m k.toNat)) 128 1 1, .int .i64 0]) else none
    | _, _, _, _ => none)
  | _ => none
theorem k31_ok : KOk Tryz.prog 9 tabs 31 k31 := by
  intro args u h
  unfold k31 at h
  split at h
  · rename_i u v k
    split at h
    · rename_i x y l m hL hM hl hm
      rcases asB_spec hl with ⟨rfl, _⟩ | ⟨g, hg, rfl, _⟩
      · cases hL
      · rcases asB_spec hm with ⟨rfl, _⟩ | ⟨g', hg', rfl, _⟩
        · cases hM
        · cases hb : (Nat.beq l.length 128 && Nat.beq m.length 128 && decide (0 ≤ k) && decide (k ≤ 128)) with
          | false => rw [hb] at h; cases h
          | true =>
            rw [hb, cond_true] at h
            cases h
            simp only [Bool.and_eq_true, decide_eq_true_eq] at hb
            obtain ⟨⟨⟨h1, h2⟩, h3⟩, h4⟩ := hb
            have h1 := Nat.eq_of_beq_eq_true h1
            have h2 := Nat.eq_of_beq_eq_true h2
            obtain ⟨n, rfl⟩ := Int.eq_ofNat_of_zero_le h3
            rw [Int.toNat_natCast, h1, h2]
            exact p31 l m n g g' h1 h2 (by omega)
    · cases h
  · cases h

end Go.Proofs.YtcjjlajpbakaoaaGreatDoor
