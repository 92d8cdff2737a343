/-
  SUPERBLOCK (chapter 36): crc32c's table.
-/
import Derived.Test.YtcjjlajpbakaoaaGreatDoorD36c
namespace Go.Proofs.YtcjjlajpbakaoaaGreatDoor
open Go.Va

/-- One bit of the division. -/
def stepN (x : Nat) : Nat := bif Nat.beq (x % 2) 1 then Nat.xor (x / 2) 2197175160 else x / 2
/-- One byte of it. -/
def step8 (x : Nat) : Nat := stepN (stepN (stepN (stepN (stepN (stepN (stepN (stepN x)))))))
def crcL : List Nat := [0, 4067132163, 3778769143, 324072436, 3348797215, 904991772, 648144872, 3570033899, 2329499855, 2024987596, 1809983544, 2575936315, 1296289744, 3207089363, 2893594407, 1578318884, 274646895, 3795141740, 4049975192, 51262619, 3619967088, 632279923, 922689671, 3298075524, 2592579488, 1760304291, 2075979607, 2312596564, 1562183871, 2943781820, 3156637768, 1313733451, 549293790, 3537243613, 3246849577, 871202090, 3878099393, 357341890, 102525238, 4101499445, 2858735121, 1477399826, 1264559846, 3107202533, 1845379342, 2677391885, 2361733625, 2125378298, 820201905, 3263744690, 3520608582, 598981189, 4151959214, 85089709, 373468761, 3827903834, 3124367742, 1213305469, 1526817161, 2842354314, 2107672161, 2412447074, 2627466902, 1861252501, 1098587580, 3004210879, 2688576843, 1378610760, 2262928035, 1955203488, 1742404180, 2511436119, 3416409459, 969524848, 714683780, 3639785095, 205050476, 4266873199, 3976438427, 526918040, 1361435347, 2739821008, 2954799652, 1114974503, 2529119692, 1691668175, 2005155131, 2247081528, 3690758684, 697762079, 986182379, 3366744552, 476452099, 3993867776, 4250756596, 255256311, 1640403810, 2477592673, 2164122517, 1922457750, 2791048317, 1412925310, 1197962378, 3037525897, 3944729517, 427051182, 170179418, 4165941337, 746937522, 3740196785, 3451792453, 1070968646, 1905808397, 2213795598, 2426610938, 1657317369, 3053634322, 1147748369, 1463399397, 2773627110, 4215344322, 153784257, 444234805, 3893493558, 1021025245, 3467647198, 3722505002, 797665321, 2197175160, 1889384571, 1674398607, 2443626636, 1164749927, 3070701412, 2757221520, 1446797203, 137323447, 4198817972, 3910406976, 461344835, 3484808360, 1037989803, 781091935, 3705997148, 2460548119, 1623424788, 1939049696, 2180517859, 1429367560, 2807687179, 3020495871, 1180866812, 410100952, 3927582683, 4182430767, 186734380, 3756733383, 763408580, 1053836080, 3434856499, 2722870694, 1344288421, 1131464017, 2971354706, 1708204729, 2545590714, 2229949006, 1988219213, 680717673, 3673779818, 3383336350, 1002577565, 4010310262, 493091189, 238226049, 4233660802, 2987750089, 1082061258, 1395524158, 2705686845, 1972364758, 2279892693, 2494862625, 1725896226, 952904198, 3399985413, 3656866545, 731699698, 4283874585, 222117402, 510512622, 3959836397, 3280807620, 837199303, 582374963, 3504198960, 68661723, 4135334616, 3844915500, 390545967, 1230274059, 3141532936, 2825850620, 1510247935, 2395924756, 2091215383, 1878366691, 2644384480, 3553878443, 565732008, 854102364, 3229815391, 340358836, 3861050807, 4117890627, 119113024, 1493875044, 2875275879, 3090270611, 1247431312, 2660249211, 1828433272, 2141937292, 2378227087, 3811616794, 291187481, 34330861, 4032846830, 615137029, 3603020806, 3314634738, 939183345, 1776939221, 2609017814, 2295496738, 2058945313, 2926798794, 1545135305, 1330124605, 3173225534, 4084100981, 17165430, 307568514, 3762199681, 888469610, 3332340585, 3587147933, 665062302, 2042050490, 2346497209, 2559330125, 1793573966, 3190661285, 1279665062, 1595330642, 2910671697]
theorem crcL_eq : crcL = (List.range 256).map step8 := by decide +kernel
def crcV (l : List Nat) : List Value := l.map fun n : Nat => .int .u32 n

noncomputable def bodyI : Code := codeOf Tryz.prog 177 [.r, .r, .l, .r, .b, .b, .r, .r, .l, .b, .r, .r, .l, .r, .b, .b]
noncomputable def bodyO : Code := codeOf Tryz.prog 177 [.r, .r, .l, .r, .b, .b]
def TI (i x j : Int) (w : Nat → Value) : List Value := fillT 25 [(0, .pointer (some ⟨9, 0, none⟩)), (1, .pointer (some ⟨10, 0, none⟩)), (2, .int .i64 i), (3, .int .u32 x), (4, .int .i64 i), (9, .int .i64 j)] w
def TO (i : Int) (w : Nat → Value) : List Value := fillT 25 [(0, .pointer (some ⟨9, 0, none⟩)), (1, .pointer (some ⟨10, 0, none⟩)), (4, .int .i64 i)] w
def z256 : List Value := List.replicate 256 (.int .u32 0)
def Sg (c : List Value) : AS := ((base0 9 tabs).push (.cells z256 true (none, some 206) none)).push (.cells c true (none, some 206) none)
def xA (x : Int) : Int := IntKind.u32.wrap ((BitVec.ofInt IntKind.u32.bits (x.fdiv (2 ^ min (Int.toNat 1) IntKind.u32.bits)) ^^^ BitVec.ofInt IntKind.u32.bits 2197175160).toNat : Int)
def xB (x : Int) : Int := x.fdiv (2 ^ min (Int.toNat 1) IntKind.u32.bits)
def xOdd (x : Int) : Bool := (IntKind.u32.wrap ((BitVec.ofInt IntKind.u32.bits x &&& BitVec.ofInt IntKind.u32.bits 1).toNat : Int) == 1)

theorem wrap32 {n : Nat} (h : n < 4294967296) : IntKind.u32.wrap (n : Int) = n := by
  unfold IntKind.wrap
  show (n : Int) % 2 ^ 32 = n
  omega
theorem xB_nat (x : Nat) : xB (x : Int) = ((x / 2 : Nat) : Int) := by
  unfold xB
  rw [show ((2 : Int) ^ min (Int.toNat 1) IntKind.u32.bits) = ((2 : Nat) : Int) from rfl]
  rw [Int.fdiv_eq_ediv_of_nonneg _ (by omega)]
  rfl
theorem xor_lt {a b : Nat} (ha : a < 4294967296) (hb : b < 4294967296) : Nat.xor a b < 4294967296 := Nat.xor_lt_two_pow (n := 32) ha hb
theorem xA_nat {x : Nat} (hx : x < 4294967296) : xA (x : Int) = (Nat.xor (x / 2) 2197175160 : Nat) := by
  unfold xA
  rw [show (x : Int).fdiv (2 ^ min (Int.toNat 1) IntKind.u32.bits) = ((x / 2 : Nat) : Int) from xB_nat x]
  rw [show (2197175160 : Int) = ((2197175160 : Nat) : Int) from rfl, BitVec.ofInt_natCast, BitVec.ofInt_natCast, BitVec.toNat_xor, BitVec.toNat_ofNat, BitVec.toNat_ofNat]
  have e1 : x / 2 % 2 ^ IntKind.u32.bits = x / 2 := Nat.mod_eq_of_lt (by show x / 2 < 4294967296; omega)
  have e2 : 2197175160 % 2 ^ IntKind.u32.bits = 2197175160 := rfl
  rw [e1, e2]
  exact wrap32 (xor_lt (by omega) (by omega))
theorem xOdd_nat {x : Nat} (hx : x < 4294967296) : xOdd (x : Int) = Nat.beq (x % 2) 1 := by
  unfold xOdd
  rw [show (1 : Int) = ((1 : Nat) : Int) from rfl, BitVec.ofInt_natCast, BitVec.ofInt_natCast, BitVec.toNat_and, BitVec.toNat_ofNat, BitVec.toNat_ofNat]
  have e1 : x % 2 ^ IntKind.u32.bits = x := Nat.mod_eq_of_lt hx
  have e2 : 1 % 2 ^ IntKind.u32.bits = 1 := rfl
  rw [e1, e2, Nat.and_one_is_mod, wrap32 (by omega)]
  have : x % 2 = 0 ∨ x % 2 = 1 := by omega
  rcases this with h | h <;> rw [h] <;> rfl
theorem stepN_lt {x : Nat} (hx : x < 4294967296) : stepN x < 4294967296 := by
  unfold stepN
  cases Nat.beq (x % 2) 1 with
  | true => exact xor_lt (by omega) (by omega)
  | false => show x / 2 < _; omega

theorem nextI (i j : Int) (x : Nat) (hx : x < 4294967296) (σ : AS) (w : Nat → Value) (h1 : decide (j < 8) = true) :
    ∃ w', runW Tryz.prog (envT t1) 0 (.code ⟨177, none⟩ bodyI (TI i x j w) []) σ = some (.done .normal (TI i (stepN x : Nat) (IntKind.i64.wrap (j + 1)) w') [], σ) := by
  have ho := xOdd_nat hx
  unfold stepN
  cases hb : Nat.beq (x % 2) 1 with
  | true =>
    rw [hb] at ho
    rw [cond_true, ← xA_nat hx]
    exact seg 100 [(1, .br true), (3, .br true)] (m := 25) (js := [0, 1, 2, 3, 4, 9]) (vs := [.pointer (some ⟨9, 0, none⟩), .pointer (some ⟨10, 0, none⟩), .int .i64 i, .int .u32 (xA x), .int .i64 i, .int .i64 (IntKind.i64.wrap (j + 1))])
      (ob := [decide (j < 8) = true, xOdd x = true]) (by kernel_rfl) ⟨h1, ho⟩
  | false =>
    rw [hb] at ho
    rw [cond_false, ← xB_nat x]
    exact seg 100 [(1, .br true), (3, .br false)] (m := 25) (js := [0, 1, 2, 3, 4, 9]) (vs := [.pointer (some ⟨9, 0, none⟩), .pointer (some ⟨10, 0, none⟩), .int .i64 i, .int .u32 (xB x), .int .i64 i, .int .i64 (IntKind.i64.wrap (j + 1))])
      (ob := [decide (j < 8) = true, xOdd x = false]) (by kernel_rfl) ⟨h1, ho⟩
theorem endI (i x j : Int) (σ : AS) (w : Nat → Value) (h1 : decide (j < 8) = false) :
    ∃ w', runW Tryz.prog (envT t1) 0 (.code ⟨177, none⟩ bodyI (TI i x j w) []) σ = some (.done (.exit 2) (TI i x j w') [], σ) :=
  seg 100 [(1, .br false)] (m := 25) (js := [0, 1, 2, 3, 4, 9]) (vs := [.pointer (some ⟨9, 0, none⟩), .pointer (some ⟨10, 0, none⟩), .int .i64 i, .int .u32 x, .int .i64 i, .int .i64 j]) (ob := [decide (j < 8) = false]) (by kernel_rfl) h1
def itN : Nat → Nat → Nat
  | 0, x => x
  | d + 1, x => itN d (stepN x)
theorem itN_8 (x : Nat) : itN 8 x = step8 x := rfl
theorem loopI (i : Int) (σ : AS) : ∀ (d : Nat) (j : Int) (x : Nat) (w : Nat → Value), 0 ≤ j → j + d = 8 → x < 4294967296 →
    ∃ w', runW Tryz.prog (envT t1) 0 (.code ⟨177, none⟩ (.loop bodyI) (TI i x j w) []) σ = some (.done (.exit 2) (TI i (itN d x : Nat) 8 w') [], σ) := by
  intro d
  induction d with
  | zero =>
    intro j x w h0 hd _
    obtain ⟨w', h⟩ := endI i x j σ w (decide_eq_false (by omega))
    have hj : j = 8 := by omega
    subst hj
    exact ⟨w', loop_out (by intro h; cases h) h⟩
  | succ d ih =>
    intro j x w h0 hd hx
    obtain ⟨w1, h⟩ := nextI i j x hx σ w (decide_eq_true (by omega))
    rw [wrap64 (by omega) (by omega)] at h
    obtain ⟨w', h'⟩ := ih (j + 1) (stepN x) w1 (by omega) (by omega) (stepN_lt hx)
    exact ⟨w', loop_next h h'⟩

def wO (i : Int) (w : Nat → Value) : Nat → Value := fun j => Go.Va.look [(5, .bool (decide (i < 256))), (6, .int .i64 i), (2, .int .i64 i), (7, .int .i64 i), (8, .int .u32 (IntKind.u32.wrap i)), (3, .int .u32 (IntKind.u32.wrap i))] j (w j)
theorem nextO (i : Int) (x : Int) (σ σ' : AS) (w w' : Nat → Value) (h1 : decide (i < 256) = true)
    (h2 : runW Tryz.prog (envT t1) 0 (.code ⟨177, none⟩ (.loop bodyI) (TI i (IntKind.u32.wrap i) 0 (wO i w)) []) σ = some (.done (.exit 2) (TI i x 8 w') [], σ)) (h3 : 0 ≤ i ∧ i < 256)
    (h4 : σ.setCells 0 ⟨10, 0 + i.toNat * 1, none⟩ [.int .u32 x] 0 = some σ') :
    ∃ w', runW Tryz.prog (envT t1) 0 (.code ⟨177, none⟩ bodyO (TO i w) []) σ = some (.done .normal (TO (IntKind.i64.wrap (i + 1)) w') [], σ') :=
  seg 100 [(1, .br true), (6, .skip (.done (.exit 2) (TI i x 8 w') []) σ), (2, .ok), (0, .sem undef σ')] (m := 25) (js := [0, 1, 4]) (vs := [.pointer (some ⟨9, 0, none⟩), .pointer (some ⟨10, 0, none⟩), .int .i64 (IntKind.i64.wrap (i + 1))])
    (ob := [decide (i < 256) = true, runW Tryz.prog (envT t1) 0 (.code ⟨177, none⟩ (.loop bodyI) (TI i (IntKind.u32.wrap i) 0 (wO i w)) []) σ = some (.done (.exit 2) (TI i x 8 w') [], σ), 0 ≤ i ∧ i < 256, σ.setCells 0 ⟨10, 0 + i.toNat * 1, none⟩ [.int .u32 x] 0 = some σ']) (by kernel_rfl) ⟨h1, h2, h3, h4⟩
theorem endO (i : Int) (σ : AS) (w : Nat → Value) (h1 : decide (i < 256) = false) :
    ∃ w', runW Tryz.prog (envT t1) 0 (.code ⟨177, none⟩ bodyO (TO i w) []) σ = some (.done (.exit 0) (TO i w') [], σ) :=
  seg 100 [(1, .br false)] (m := 25) (js := [0, 1, 4]) (vs := [.pointer (some ⟨9, 0, none⟩), .pointer (some ⟨10, 0, none⟩), .int .i64 i]) (ob := [decide (i < 256) = false]) (by kernel_rfl) h1

/-- The cells behind i rounds. -/
def upto (i : Nat) : List Value := crcV ((List.range i).map step8) ++ List.replicate (256 - i) (.int .u32 0)
theorem upto_len {i : Nat} (h : i ≤ 256) : (upto i).length = 256 := by
  unfold upto crcV; simp; omega
theorem upto_set {i : Nat} (h : i < 256) : (upto i).set i (.int .u32 (step8 i : Nat)) = upto (i + 1) := by
  have hl : (crcV ((List.range i).map step8)).length = i := by unfold crcV; simp
  unfold upto
  rw [List.set_append_right _ _ (by omega), hl, Nat.sub_self, show 256 - i = (256 - (i + 1)) + 1 by omega, List.replicate_succ, List.set_cons_zero]
  unfold crcV
  rw [List.range_succ, List.map_append, List.map_append, List.append_assoc]
  rfl
theorem Sg_get (c : List Value) : (Sg c).get 10 = some (.cells c true (none, some 206) none) := rfl
theorem Sg_put (c d : List Value) : (Sg c).put 10 (some (.cells d true (none, some 206) none)) = Sg d := by kernel_rfl
theorem step8_lt {i : Nat} (h : i < 256) : step8 i < 4294967296 := by
  unfold step8
  exact stepN_lt (stepN_lt (stepN_lt (stepN_lt (stepN_lt (stepN_lt (stepN_lt (stepN_lt (by omega))))))))
theorem loopO : ∀ (d i : Nat) (w : Nat → Value), i + d = 256 →
    ∃ w', runW Tryz.prog (envT t1) 0 (.code ⟨177, none⟩ (.loop bodyO) (TO i w) []) (Sg (upto i)) = some (.done (.exit 0) (TO 256 w') [], Sg (upto 256)) := by
  intro d
  induction d with
  | zero =>
    intro i w hd
    obtain rfl : i = 256 := by omega
    obtain ⟨w', h⟩ := endO 256 (Sg (upto 256)) w (by decide)
    exact ⟨w', loop_out (by intro h; cases h) h⟩
  | succ d ih =>
    intro i w hd
    obtain ⟨w1, h1⟩ := loopI i (Sg (upto i)) 8 0 i (wO i w) (by omega) (by omega) (by omega)
    rw [itN_8] at h1
    have hs : (Sg (upto i)).setCells 0 ⟨10, 0 + ((i : Int)).toNat * 1, none⟩ [.int .u32 (step8 i : Nat)] 0 = some (Sg (upto (i + 1))) := by
      rw [show 0 + ((i : Int)).toNat * 1 = i by omega, setCells1 (Sg_get _) (by omega) (by rw [upto_len (by omega)]; omega) rfl, Sg_put, upto_set (by omega)]
    obtain ⟨w2, h2⟩ := nextO i (step8 i : Nat) (Sg (upto i)) (Sg (upto (i + 1))) w w1 (decide_eq_true (by omega)) (by rw [wrap32 (by omega)]; exact h1) (by omega) hs
    rw [wrap64 (by omega) (by omega)] at h2
    obtain ⟨w3, h3⟩ := ih (i + 1) w2 (by omega)
    exact ⟨w3, loop_next h2 h3⟩

theorem upto_all : upto 256 = crcV crcL := by
  rw [crcL_eq]
  unfold upto
  exact List.append_nil _
theorem upto_none : upto 0 = z256 := rfl
def tabV : Value := .agg ⟨crcV crcL⟩
set_option maxRecDepth 100000 in
theorem p177 : Pure Tryz.prog 9 tabs 177 [] tabV := by
  obtain ⟨w', h⟩ := loopO 256 0 (fun _ => undef) rfl
  rw [upto_all, upto_none] at h
  exact pureT t1_ok (n := 100) (v := tabV) [(3, .skip (.done (.exit 0) (TO 256 w') []) (Sg (crcV crcL)))] [_] (by kernel_rfl) h rfl (plain_PF 100 _ (by kernel_rfl))

end Go.Proofs.YtcjjlajpbakaoaaGreatDoor
