/- Configurations as they lie in memory. -/
import Derived.Test.YtpkjffiajidfcaaG1
import Derived.RangeFuncNested
import Derived.RangeFuncBound
import Derived.RangeFuncCalls
import Derived.RangeFuncLeaves
import Derived.Shelf.Abstract
import Derived.Shelf.RegionOpen
import Derived.WalkKit
import Derived.OwnWalkIn
import Derived.TacticsInMore
import Derived.LoopNIn
import Derived.LoopIn
set_option linter.all false
set_option linter.unusedVariables false
set_option linter.unusedSimpArgs false

namespace Go.Proofs.Ytpkjffiajidfcaa
open Go.RowKit

/-- n rows of k cells from an address on. -/
def Rows (w : World) (a : Option Addr) (n k : Nat) (f : Nat → Nat → Value) : Prop :=
  n = 0 ∨ ∃ b o, a = some ⟨b, o, none⟩ ∧ b < w.heap.size ∧ ∀ i, i < n → ∀ j, j < k → w.cell? ⟨b, o + i * k + j, none⟩ = some (f i j)

def blockOf (a : Option Addr) : Option Nat := a.map (·.block)

theorem Rows.keep {l : List Nat} {w w' : World} {a : Option Addr} {n k : Nat} {f : Nat → Nat → Value} (h : Rows w a n k f) (hk : Keeps l w w') (hl : ∀ b, blockOf a = some b → b ∉ l) : Rows w' a n k f := by
  rcases h with h | ⟨b, o, rfl, hb, h⟩
  · exact .inl h
  · refine .inr ⟨b, o, rfl, Nat.lt_of_lt_of_le hb hk.size, fun i hi j hj => ?_⟩
    rw [← h i hi j hj]
    exact World.cell?_of_block (hk.block b hb (hl b rfl))

/-- A configuration: its three lists (parts, channels, windows) and what they hold. -/
structure CfgV where
  pa : Option Addr
  pn : Nat
  pc : Nat
  ca : Option Addr
  cn : Nat
  cc : Nat
  l0 : Int
  w0a : Option Addr
  w0n : Nat
  w0c : Nat
  l1 : Int
  w1a : Option Addr
  w1n : Nat
  w1c : Nat
  part : Nat → Nat → Int
  chan : Nat → Nat → Int
  win0 : Nat → Nat → Int
  win1 : Nat → Nat → Int

@[reducible, go_sem] def CfgV.cells (c : CfgV) : Array Value :=
  #[.slice c.pa c.pn c.pc, .slice c.ca c.cn c.cc, .int .i64 c.l0, .slice c.w0a c.w0n c.w0c, .int .i64 c.l1, .slice c.w1a c.w1n c.w1c]

def i64s (f : Nat → Nat → Int) (i j : Nat) : Value := .int .i64 (f i j)
/-- A channel's cells: its last one is a 32-bit word. -/
def chs (f : Nat → Nat → Int) (i j : Nat) : Value := if j = 6 then .int .u32 (f i j) else .int .i64 (f i j)

structure I64 (x : Int) : Prop where
  lo : -9223372036854775808 ≤ x
  hi : x ≤ 9223372036854775807

structure CfgAt (w : World) (c : CfgV) : Prop where
  parts : Rows w c.pa c.pn 2 (i64s c.part)
  chans : Rows w c.ca c.cn 7 (chs c.chan)
  wins0 : Rows w c.w0a c.w0n 3 (i64s c.win0)
  wins1 : Rows w c.w1a c.w1n 3 (i64s c.win1)
  pn : c.pn ≤ 140737488351232
  cn : c.cn ≤ 140737488351232
  w0n : c.w0n ≤ 140737488351232
  w1n : c.w1n ≤ 140737488351232
  l0 : I64 c.l0
  l1 : I64 c.l1
  part : ∀ i j, I64 (c.part i j)
  chan : ∀ i j, I64 (c.chan i j)
  boot : ∀ i, 0 ≤ c.chan i 6 ∧ c.chan i 6 ≤ 4294967295
  win0 : ∀ i j, I64 (c.win0 i j)
  win1 : ∀ i j, I64 (c.win1 i j)

/-- The blocks in which a configuration's lists lie. -/
def CfgV.blocks (c : CfgV) : List Nat := (blockOf c.pa).toList ++ (blockOf c.ca).toList ++ (blockOf c.w0a).toList ++ (blockOf c.w1a).toList

theorem CfgAt.keep {l : List Nat} {w w' : World} {c : CfgV} (h : CfgAt w c) (hk : Keeps l w w') (hl : ∀ b, b ∈ c.blocks → b ∉ l) : CfgAt w' c :=
  ⟨h.parts.keep hk fun b e => hl b (by simp [CfgV.blocks, e]), h.chans.keep hk fun b e => hl b (by simp [CfgV.blocks, e]), h.wins0.keep hk fun b e => hl b (by simp [CfgV.blocks, e]),
   h.wins1.keep hk fun b e => hl b (by simp [CfgV.blocks, e]), h.pn, h.cn, h.w0n, h.w1n, h.l0, h.l1, h.part, h.chan, h.boot, h.win0, h.win1⟩

theorem CfgAt.kept {w w' : World} {c : CfgV} (h : CfgAt w c) (hk : Keeps [] w w') : CfgAt w' c := h.keep hk (by simp)
theorem CfgAt.alloc {w : World} {c : CfgV} (h : CfgAt w c) (o : Obj) : CfgAt (w.alloc o) c := h.kept ((Keeps.refl _ _).alloc _)
theorem CfgAt.drew {w : World} {c : CfgV} (h : CfgAt w c) : CfgAt w.drew c := h.kept (Keeps.refl _ _).drew

/-- What a call leaves that only answers: its answer; all that was is as it was. -/
def Says (v : Value) (w : World) (e : Ending) (w' : World) : Prop := e = .returned v ∧ Keeps [] w w'

theorem ret_bool {a b : Bool} (h : a = b) : Ending.returned (.bool a) = .returned (.bool b) := by rw [h]
theorem ret_i64 {a b : Int} (h : a = b) : Ending.returned (.int .i64 a) = .returned (.int .i64 b) := by rw [h]

def inR (n lo hi : Int) : Bool := decide (lo ≤ n) && decide (n ≤ hi)
/-- A function is entered when it is called by value. -/
def Enters (k : Nat) : Prop := ∀ (args : Array Value) (w : World), (callFunc k args).run Try.prog w = .ok (.enter k args) w
end Go.Proofs.Ytpkjffiajidfcaa

/- The small functions of package defect, and its rules one by one. -/
namespace Go.Proofs.Ytpkjffiajidfcaa
open Go.RowKit


theorem within_any (n lo hi : Int) (w : World) :
    Calls Try.prog 65 #[.int .i64 n, .int .i64 lo, .int .i64 hi] w (Says (.bool (inR n lo hi)) w) := by
  go_enter Try.func65, Try.ntmps65
  go_wp2
  all_goals
    go_ret
    refine ⟨ret_bool ?_, ?_⟩
    · unfold inR; simp [*]; try omega
    · (repeat' with_reducible (first | exact Keeps.refl _ _ | assumption | apply Keeps.drew | apply Keeps.drewN | apply Keeps.alloc | refine Keeps.trans ?_ hk1 | refine Keeps.trans ?_ hk2 | refine Keeps.trans ?_ hk3))

def spDeep (x0 x4 : Int) : Bool := if x0 = 1 then x4 == 0 else if x0 = 2 then x4 == 1 || x4 == 2 || x4 == 4 || x4 == 8 else true
def spFresh (x0 x5 : Int) : Bool := if x0 = 1 then inR x5 0 1048576 else if x0 = 2 then x5 == 0 else true
def spBeyond (x1 x2 hi : Int) : Bool := decide (hi < x1) || decide (hi - x1 < x2)


theorem deep_any (x0 x1 x2 x3 x4 x5 x6 : Int) (w : World) :
    Calls Try.prog 77 #[.agg #[.int .i64 x0, .int .i64 x1, .int .i64 x2, .int .i64 x3, .int .i64 x4, .int .i64 x5, .int .u32 x6]] w (Says (.bool (spDeep x0 x4)) w) := by
  go_enter Try.func77, Try.ntmps77
  go_wp2
  all_goals
    go_ret
    refine ⟨ret_bool ?_, ?_⟩
    · unfold spDeep; simp_all
    · (repeat' with_reducible (first | exact Keeps.refl _ _ | assumption | apply Keeps.drew | apply Keeps.drewN | apply Keeps.alloc | refine Keeps.trans ?_ hk1 | refine Keeps.trans ?_ hk2 | refine Keeps.trans ?_ hk3))


theorem fresh_any (x0 x1 x2 x3 x4 x5 x6 : Int) (w : World) :
    Calls Try.prog 79 #[.agg #[.int .i64 x0, .int .i64 x1, .int .i64 x2, .int .i64 x3, .int .i64 x4, .int .i64 x5, .int .u32 x6]] w (Says (.bool (spFresh x0 x5)) w) := by
  go_enter Try.func79, Try.ntmps79
  go_wp2_with (first | (go_at_call 65; refine (within_any _ _ _ _).mono ?_; rintro e w1 ⟨rfl, hk1⟩))
  all_goals
    go_ret
    refine ⟨ret_bool ?_, ?_⟩
    · unfold spFresh; simp_all
    · (repeat' with_reducible (first | exact Keeps.refl _ _ | assumption | apply Keeps.drew | apply Keeps.drewN | apply Keeps.alloc | refine Keeps.trans ?_ hk1 | refine Keeps.trans ?_ hk2 | refine Keeps.trans ?_ hk3))


theorem beyond_any (x0 x1 x2 : Int) (hi : Int) (w : World) (hw0 : 0 ≤ x1) (hh0 : -9223372036854775808 ≤ hi) (hh1 : hi ≤ 9223372036854775807) (hx : x1 ≤ 9223372036854775807):
    Calls Try.prog 98 #[.agg #[.int .i64 x0, .int .i64 x1, .int .i64 x2], .int .i64 hi] w (Says (.bool (spBeyond x1 x2 hi)) w) := by
  have hws : hi < x1 ∨ IntKind.i64.wrap (hi - x1) = hi - x1 := by
    by_cases h : hi < x1
    · exact .inl h
    · exact .inr (by simp [IntKind.wrap, IntKind.bits, IntKind.signed]; omega)
  go_enter Try.func98, Try.ntmps98
  go_wp2
  all_goals
    go_ret
    refine ⟨ret_bool ?_, ?_⟩
    · unfold spBeyond; simp_all; try omega
    · (repeat' with_reducible (first | exact Keeps.refl _ _ | assumption | apply Keeps.drew | apply Keeps.drewN | apply Keeps.alloc | refine Keeps.trans ?_ hk1 | refine Keeps.trans ?_ hk2 | refine Keeps.trans ?_ hk3))


theorem strange_any (c : CfgV) (p : Int) (w : World) (hn : c.pn ≤ 140737488351232) :
    Calls Try.prog 73 #[.agg c.cells, .int .i64 p] w (Says (.bool (!inR p 0 (c.pn - 1))) w) := by
  have hw1 : IntKind.i64.wrap ((c.pn : Int) - 1) = (c.pn : Int) - 1 := by simp [IntKind.wrap, IntKind.bits, IntKind.signed]; omega
  go_enter Try.func73, Try.ntmps73
  go_wp2_with (first | (go_at_call 65; refine (within_any _ _ _ _).mono ?_; rintro e w1 ⟨rfl, hk1⟩))
  all_goals
    go_ret
    refine ⟨ret_bool ?_, ?_⟩
    · simp [*]
    · (repeat' with_reducible (first | exact Keeps.refl _ _ | assumption | apply Keeps.drew | apply Keeps.drewN | apply Keeps.alloc | refine Keeps.trans ?_ hk1 | refine Keeps.trans ?_ hk2 | refine Keeps.trans ?_ hk3))


theorem r1_any (c : CfgV) (w : World) :
    Calls Try.prog 64 #[.agg c.cells] w (Says (.bool (!inR c.pn 1 6)) w) := by
  go_enter Try.func64, Try.ntmps64
  go_wp2_with (first | (go_at_call 65; refine (within_any _ _ _ _).mono ?_; rintro e w1 ⟨rfl, hk1⟩))
  all_goals
    go_ret
    refine ⟨ret_bool ?_, ?_⟩
    · simp [*]
    · (repeat' with_reducible (first | exact Keeps.refl _ _ | assumption | apply Keeps.drew | apply Keeps.drewN | apply Keeps.alloc | refine Keeps.trans ?_ hk1 | refine Keeps.trans ?_ hk2 | refine Keeps.trans ?_ hk3))


theorem r2_any (x0 x1 : Int) (w : World) :
    Calls Try.prog 67 #[.agg #[.int .i64 x0, .int .i64 x1]] w (Says (.bool (!inR x0 0 1)) w) := by
  go_enter Try.func67, Try.ntmps67
  go_wp2_with (first | (go_at_call 65; refine (within_any _ _ _ _).mono ?_; rintro e w1 ⟨rfl, hk1⟩))
  all_goals
    go_ret
    refine ⟨ret_bool ?_, ?_⟩
    · simp [*]
    · (repeat' with_reducible (first | exact Keeps.refl _ _ | assumption | apply Keeps.drew | apply Keeps.drewN | apply Keeps.alloc | refine Keeps.trans ?_ hk1 | refine Keeps.trans ?_ hk2 | refine Keeps.trans ?_ hk3))


theorem r3_any (x0 x1 : Int) (w : World) :
    Calls Try.prog 68 #[.agg #[.int .i64 x0, .int .i64 x1]] w (Says (.bool (!inR x1 0 64)) w) := by
  go_enter Try.func68, Try.ntmps68
  go_wp2_with (first | (go_at_call 65; refine (within_any _ _ _ _).mono ?_; rintro e w1 ⟨rfl, hk1⟩))
  all_goals
    go_ret
    refine ⟨ret_bool ?_, ?_⟩
    · simp [*]
    · (repeat' with_reducible (first | exact Keeps.refl _ _ | assumption | apply Keeps.drew | apply Keeps.drewN | apply Keeps.alloc | refine Keeps.trans ?_ hk1 | refine Keeps.trans ?_ hk2 | refine Keeps.trans ?_ hk3))


theorem r4_any (c : CfgV) (w : World) :
    Calls Try.prog 69 #[.agg c.cells] w (Says (.bool (decide (8 < (c.cn : Int)))) w) := by
  go_enter Try.func69, Try.ntmps69
  go_wp2
  all_goals
    go_ret
    refine ⟨ret_bool ?_, ?_⟩
    · simp [*]
    · (repeat' with_reducible (first | exact Keeps.refl _ _ | assumption | apply Keeps.drew | apply Keeps.drewN | apply Keeps.alloc | refine Keeps.trans ?_ hk1 | refine Keeps.trans ?_ hk2 | refine Keeps.trans ?_ hk3))


theorem r5_any (c : CfgV) (x0 x1 x2 x3 x4 x5 x6 : Int) (w : World) :
    Calls Try.prog 71 #[.agg c.cells, .agg #[.int .i64 x0, .int .i64 x1, .int .i64 x2, .int .i64 x3, .int .i64 x4, .int .i64 x5, .int .u32 x6]] w (Says (.bool (x0 != 1 && x0 != 2)) w) := by
  go_enter Try.func71, Try.ntmps71
  go_wp2
  all_goals
    go_ret
    refine ⟨ret_bool ?_, ?_⟩
    · simp [*]
    · (repeat' with_reducible (first | exact Keeps.refl _ _ | assumption | apply Keeps.drew | apply Keeps.drewN | apply Keeps.alloc | refine Keeps.trans ?_ hk1 | refine Keeps.trans ?_ hk2 | refine Keeps.trans ?_ hk3))


theorem r7_any (c : CfgV) (x0 x1 x2 x3 x4 x5 x6 : Int) (w : World) :
    Calls Try.prog 74 #[.agg c.cells, .agg #[.int .i64 x0, .int .i64 x1, .int .i64 x2, .int .i64 x3, .int .i64 x4, .int .i64 x5, .int .u32 x6]] w (Says (.bool (x1 == x2)) w) := by
  go_enter Try.func74, Try.ntmps74
  go_wp2
  all_goals
    go_ret
    refine ⟨ret_bool ?_, ?_⟩
    · simp [*]
    · (repeat' with_reducible (first | exact Keeps.refl _ _ | assumption | apply Keeps.drew | apply Keeps.drewN | apply Keeps.alloc | refine Keeps.trans ?_ hk1 | refine Keeps.trans ?_ hk2 | refine Keeps.trans ?_ hk3))


theorem r8_any (c : CfgV) (x0 x1 x2 x3 x4 x5 x6 : Int) (w : World) :
    Calls Try.prog 75 #[.agg c.cells, .agg #[.int .i64 x0, .int .i64 x1, .int .i64 x2, .int .i64 x3, .int .i64 x4, .int .i64 x5, .int .u32 x6]] w (Says (.bool (!inR x3 1 16)) w) := by
  go_enter Try.func75, Try.ntmps75
  go_wp2_with (first | (go_at_call 65; refine (within_any _ _ _ _).mono ?_; rintro e w1 ⟨rfl, hk1⟩))
  all_goals
    go_ret
    refine ⟨ret_bool ?_, ?_⟩
    · simp [*]
    · (repeat' with_reducible (first | exact Keeps.refl _ _ | assumption | apply Keeps.drew | apply Keeps.drewN | apply Keeps.alloc | refine Keeps.trans ?_ hk1 | refine Keeps.trans ?_ hk2 | refine Keeps.trans ?_ hk3))


theorem r9_any (c : CfgV) (x0 x1 x2 x3 x4 x5 x6 : Int) (w : World) :
    Calls Try.prog 76 #[.agg c.cells, .agg #[.int .i64 x0, .int .i64 x1, .int .i64 x2, .int .i64 x3, .int .i64 x4, .int .i64 x5, .int .u32 x6]] w (Says (.bool (!spDeep x0 x4)) w) := by
  go_enter Try.func76, Try.ntmps76
  go_wp2_with (first | (go_at_call 77; refine (deep_any _ _ _ _ _ _ _ _).mono ?_; rintro e w1 ⟨rfl, hk1⟩))
  all_goals
    go_ret
    refine ⟨ret_bool ?_, ?_⟩
    · simp [*]
    · (repeat' with_reducible (first | exact Keeps.refl _ _ | assumption | apply Keeps.drew | apply Keeps.drewN | apply Keeps.alloc | refine Keeps.trans ?_ hk1 | refine Keeps.trans ?_ hk2 | refine Keeps.trans ?_ hk3))


theorem r10_any (c : CfgV) (x0 x1 x2 x3 x4 x5 x6 : Int) (w : World) :
    Calls Try.prog 78 #[.agg c.cells, .agg #[.int .i64 x0, .int .i64 x1, .int .i64 x2, .int .i64 x3, .int .i64 x4, .int .i64 x5, .int .u32 x6]] w (Says (.bool (!spFresh x0 x5)) w) := by
  go_enter Try.func78, Try.ntmps78
  go_wp2_with (first | (go_at_call 79; refine (fresh_any _ _ _ _ _ _ _ _).mono ?_; rintro e w1 ⟨rfl, hk1⟩))
  all_goals
    go_ret
    refine ⟨ret_bool ?_, ?_⟩
    · simp [*]
    · (repeat' with_reducible (first | exact Keeps.refl _ _ | assumption | apply Keeps.drew | apply Keeps.drewN | apply Keeps.alloc | refine Keeps.trans ?_ hk1 | refine Keeps.trans ?_ hk2 | refine Keeps.trans ?_ hk3))


theorem r11_any (c : CfgV) (x0 x1 x2 x3 x4 x5 x6 : Int) (w : World) :
    Calls Try.prog 80 #[.agg c.cells, .agg #[.int .i64 x0, .int .i64 x1, .int .i64 x2, .int .i64 x3, .int .i64 x4, .int .i64 x5, .int .u32 x6]] w (Says (.bool (x0 == 1 && x6 != 0)) w) := by
  go_enter Try.func80, Try.ntmps80
  go_wp2
  all_goals
    go_ret
    refine ⟨ret_bool ?_, ?_⟩
    · simp [*]
    · (repeat' with_reducible (first | exact Keeps.refl _ _ | assumption | apply Keeps.drew | apply Keeps.drewN | apply Keeps.alloc | refine Keeps.trans ?_ hk1 | refine Keeps.trans ?_ hk2 | refine Keeps.trans ?_ hk3))


theorem r12_0 (c : CfgV) (w : World) :
    Calls Try.prog 82 #[.agg c.cells, .int .i64 0] w (Says (.bool (!inR c.l0 1 64)) w) := by
  go_enter Try.func82, Try.ntmps82
  go_wp2_with (first | (go_at_call 65; refine (within_any _ _ _ _).mono ?_; rintro e w1 ⟨rfl, hk1⟩))
  all_goals
    go_ret
    refine ⟨ret_bool ?_, ?_⟩
    · simp [*]
    · (repeat' with_reducible (first | exact Keeps.refl _ _ | assumption | apply Keeps.drew | apply Keeps.drewN | apply Keeps.alloc | refine Keeps.trans ?_ hk1 | refine Keeps.trans ?_ hk2 | refine Keeps.trans ?_ hk3))


theorem r13_0 (c : CfgV) (w : World) :
    Calls Try.prog 83 #[.agg c.cells, .int .i64 0] w (Says (.bool (decide (16 < (c.w0n : Int)))) w) := by
  go_enter Try.func83, Try.ntmps83
  go_wp2
  all_goals
    go_ret
    refine ⟨ret_bool ?_, ?_⟩
    · simp [*]
    · (repeat' with_reducible (first | exact Keeps.refl _ _ | assumption | apply Keeps.drew | apply Keeps.drewN | apply Keeps.alloc | refine Keeps.trans ?_ hk1 | refine Keeps.trans ?_ hk2 | refine Keeps.trans ?_ hk3))


theorem r12_1 (c : CfgV) (w : World) :
    Calls Try.prog 82 #[.agg c.cells, .int .i64 1] w (Says (.bool (!inR c.l1 1 64)) w) := by
  go_enter Try.func82, Try.ntmps82
  go_wp2_with (first | (go_at_call 65; refine (within_any _ _ _ _).mono ?_; rintro e w1 ⟨rfl, hk1⟩))
  all_goals
    go_ret
    refine ⟨ret_bool ?_, ?_⟩
    · simp [*]
    · (repeat' with_reducible (first | exact Keeps.refl _ _ | assumption | apply Keeps.drew | apply Keeps.drewN | apply Keeps.alloc | refine Keeps.trans ?_ hk1 | refine Keeps.trans ?_ hk2 | refine Keeps.trans ?_ hk3))


theorem r13_1 (c : CfgV) (w : World) :
    Calls Try.prog 83 #[.agg c.cells, .int .i64 1] w (Says (.bool (decide (16 < (c.w1n : Int)))) w) := by
  go_enter Try.func83, Try.ntmps83
  go_wp2
  all_goals
    go_ret
    refine ⟨ret_bool ?_, ?_⟩
    · simp [*]
    · (repeat' with_reducible (first | exact Keeps.refl _ _ | assumption | apply Keeps.drew | apply Keeps.drewN | apply Keeps.alloc | refine Keeps.trans ?_ hk1 | refine Keeps.trans ?_ hk2 | refine Keeps.trans ?_ hk3))

end Go.Proofs.Ytpkjffiajidfcaa

/- The functions of package defect that read the configuration's lists. -/
namespace Go.Proofs.Ytpkjffiajidfcaa
open Go.RowKit


theorem r6_any (c : CfgV) (x0 x1 x2 x3 x4 x5 x6 : Int) (w : World) (hn : c.pn ≤ 140737488351232) :
    Calls Try.prog 72 #[.agg c.cells, .agg #[.int .i64 x0, .int .i64 x1, .int .i64 x2, .int .i64 x3, .int .i64 x4, .int .i64 x5, .int .u32 x6]] w (Says (.bool (!inR x1 0 (c.pn - 1) || !inR x2 0 (c.pn - 1))) w) := by
  cases hs : inR x1 0 (c.pn - 1)
  all_goals
    go_enter Try.func72, Try.ntmps72
    go_wp2_with (first | (go_at_call 73; ((with_reducible refine (strange_any c x1 _ hn).mono ?_); rintro e w1 ⟨rfl, hk1⟩; have B1 : Blk w1 w.heap.size c.cells 31 := Blk.keep (l := []) (by (repeat' (first | (refine Blk.newAt ?_; first | rfl | (simp; done)) | with_reducible (apply Blk.drew) | with_reducible (apply Blk.alloc)))) hk1 (by simp); have C1 := B1.cell; have B2 : Blk w1 (w.heap.size + 1) #[.int .i64 x0, .int .i64 x1, .int .i64 x2, .int .i64 x3, .int .i64 x4, .int .i64 x5, .int .u32 x6] 60 := Blk.keep (l := []) (by (repeat' (first | (refine Blk.newAt ?_; first | rfl | (simp; done)) | with_reducible (apply Blk.drew) | with_reducible (apply Blk.alloc)))) hk1 (by simp); have C2 := B2.cell)) | (go_at_call 73; ((with_reducible refine (strange_any c x2 _ hn).mono ?_); rintro e w2 ⟨rfl, hk2⟩)))
    all_goals
      go_ret
      refine ⟨ret_bool ?_, ?_⟩
      · simp [*]
      · (repeat' with_reducible (first | exact Keeps.refl _ _ | assumption | apply Keeps.drew | apply Keeps.drewN | apply Keeps.alloc | refine Keeps.trans ?_ hk1 | refine Keeps.trans ?_ hk2 | refine Keeps.trans ?_ hk3))


theorem foreign_any (c : CfgV) (core : Int) (x0 x1 x2 : Int) (w : World) (h : CfgAt w c) :
    Calls Try.prog 85 #[.agg c.cells, .int .i64 core, .agg #[.int .i64 x0, .int .i64 x1, .int .i64 x2]] w (Says (.bool (!inR x0 0 (c.pn - 1) || c.part x0.toNat 0 != core)) w) := by
  have hn := h.pn
  cases hs : inR x0 0 (c.pn - 1)
  · have hs' := hs
    clear h
    go_enter Try.func85, Try.ntmps85
    go_wp2_with (first | (go_at_call 73; ((with_reducible refine (strange_any c x0 _ hn).mono ?_); rintro e w1 ⟨rfl, hk1⟩)))
    all_goals
      go_ret
      refine ⟨ret_bool ?_, ?_⟩
      · simp [*]
      · (repeat' with_reducible (first | exact Keeps.refl _ _ | assumption | apply Keeps.drew | apply Keeps.drewN | apply Keeps.alloc | refine Keeps.trans ?_ hk1 | refine Keeps.trans ?_ hk2 | refine Keeps.trans ?_ hk3))
  · have hr : 0 ≤ x0 ∧ x0 < c.pn := by
      unfold inR at hs
      simp at hs
      omega
    obtain ⟨hr0, hr1⟩ := hr
    obtain ⟨b, o, hpa, hb, hrow⟩ := h.parts.resolve_left (by omega)
    have hcell : w.cell? ⟨b, o + x0.toNat * 2, none⟩ = some (.int .i64 (c.part x0.toNat 0)) := hrow x0.toNat (by omega) 0 (by omega)
    have Hpa := Lib.hid hpa
    clear hrow h hpa
    go_enter Try.func85, Try.ntmps85
    go_wp2_with (first | (go_at_call 73; ((with_reducible refine (strange_any c x0 _ hn).mono ?_); rintro e w1 ⟨rfl, hk1⟩; have B1 : Blk w1 w.heap.size c.cells 31 := Blk.keep (l := []) (by (repeat' (first | (refine Blk.newAt ?_; first | rfl | (simp; done)) | with_reducible (apply Blk.drew) | with_reducible (apply Blk.alloc)))) hk1 (by simp); have C1 := B1.cell; have B2 : Blk w1 (w.heap.size + 1) #[.int .i64 x0, .int .i64 x1, .int .i64 x2] 65 := Blk.keep (l := []) (by (repeat' (first | (refine Blk.newAt ?_; first | rfl | (simp; done)) | with_reducible (apply Blk.drew) | with_reducible (apply Blk.alloc)))) hk1 (by simp); have C2 := B2.cell; have hpa1 := Hpa.out; have hcell1 : w1.cell? ⟨b, o + x0.toNat * 2, none⟩ = some (.int .i64 (c.part x0.toNat 0)) := (Keeps.cell (w := w) (l := []) (by (repeat' with_reducible (first | exact Keeps.refl _ _ | assumption | apply Keeps.drew | apply Keeps.drewN | apply Keeps.alloc | refine Keeps.trans ?_ hk1 | refine Keeps.trans ?_ hk2 | refine Keeps.trans ?_ hk3))) hb (by simp)).trans hcell)))
    all_goals
      go_ret
      refine ⟨ret_bool ?_, ?_⟩
      · simp [*]
      · (repeat' with_reducible (first | exact Keeps.refl _ _ | assumption | apply Keeps.drew | apply Keeps.drewN | apply Keeps.alloc | refine Keeps.trans ?_ hk1 | refine Keeps.trans ?_ hk2 | refine Keeps.trans ?_ hk3))

def spOutside (x1 x2 l : Int) : Bool := decide (x1 < 0) || decide (x2 < 1) || spBeyond x1 x2 l


theorem outside_0 (c : CfgV) (x0 x1 x2 : Int) (w : World) (hl0 : I64 c.l0) (hx : x1 ≤ 9223372036854775807) :
    Calls Try.prog 86 #[.agg c.cells, .int .i64 0, .agg #[.int .i64 x0, .int .i64 x1, .int .i64 x2]] w (Says (.bool (spOutside x1 x2 c.l0)) w) := by
  by_cases h1 : x1 < 0
  · have hd : decide (x1 < 0) = true := by simpa using h1
    go_enter Try.func86, Try.ntmps86
    go_wp2_with fail
    go_quiet (fail)
    go_wp2
    all_goals
      go_ret
      refine ⟨ret_bool ?_, ?_⟩
      · unfold spOutside; simp [*]
      · (repeat' with_reducible (first | exact Keeps.refl _ _ | assumption | apply Keeps.drew | apply Keeps.drewN | apply Keeps.alloc | refine Keeps.trans ?_ hk1 | refine Keeps.trans ?_ hk2 | refine Keeps.trans ?_ hk3))
  · have h1' : 0 ≤ x1 := by omega
    have hd : decide (x1 < 0) = false := by simpa using h1
    by_cases h2 : x2 < 1
    · have hd2 : decide (x2 < 1) = true := by simpa using h2
      go_enter Try.func86, Try.ntmps86
      go_wp2_with fail
      go_quiet (fail)
      go_wp2
      all_goals
        go_ret
        refine ⟨ret_bool ?_, ?_⟩
        · unfold spOutside; simp [*]
        · (repeat' with_reducible (first | exact Keeps.refl _ _ | assumption | apply Keeps.drew | apply Keeps.drewN | apply Keeps.alloc | refine Keeps.trans ?_ hk1 | refine Keeps.trans ?_ hk2 | refine Keeps.trans ?_ hk3))
    · have hd2 : decide (x2 < 1) = false := by simpa using h2
      go_enter Try.func86, Try.ntmps86
      go_wp2_with fail
      have K1 : Blk ((w.alloc (.cells c.cells 31)).alloc (.cells #[.int .i64 x0, .int .i64 x1, .int .i64 x2] 65)) w.heap.size c.cells 31 := (Blk.new _ _ _).alloc _
      have K2 : Blk ((w.alloc (.cells c.cells 31)).alloc (.cells #[.int .i64 x0, .int .i64 x1, .int .i64 x2] 65)) (w.heap.size + 1) #[.int .i64 x0, .int .i64 x1, .int .i64 x2] 65 := Blk.newAt (by simp)
      go_region_held3 (fun w' => (∀ j, w'.cell? ⟨w.heap.size, j, none⟩ = (c.cells)[j]?) ∧ (∀ j, w'.cell? ⟨w.heap.size + 1, j, none⟩ = (#[.int .i64 x0, .int .i64 x1, .int .i64 x2] : Array Value)[j]?)) (first | exact ⟨K1.cell, K2.cell⟩ | exact ⟨(K1.drew.keep (l := []) hk1 (by simp)).cell, (K2.drew.keep (l := []) hk1 (by simp)).cell⟩)
        (first | (go_at_call 98; ((with_reducible refine (beyond_any _ _ _ _ _ h1' hl0.lo hl0.hi hx).mono ?_); rintro e w1 ⟨rfl, hk1⟩)))
      go_wp2
      all_goals
        go_ret
        refine ⟨ret_bool ?_, ?_⟩
        · unfold spOutside; simp [*]
        · (repeat' with_reducible (first | exact Keeps.refl _ _ | assumption | apply Keeps.drew | apply Keeps.drewN | apply Keeps.alloc | refine Keeps.trans ?_ hk1 | refine Keeps.trans ?_ hk2 | refine Keeps.trans ?_ hk3))


theorem outside_1 (c : CfgV) (x0 x1 x2 : Int) (w : World) (hl0 : I64 c.l1) (hx : x1 ≤ 9223372036854775807) :
    Calls Try.prog 86 #[.agg c.cells, .int .i64 1, .agg #[.int .i64 x0, .int .i64 x1, .int .i64 x2]] w (Says (.bool (spOutside x1 x2 c.l1)) w) := by
  by_cases h1 : x1 < 0
  · have hd : decide (x1 < 0) = true := by simpa using h1
    go_enter Try.func86, Try.ntmps86
    go_wp2_with fail
    go_quiet (fail)
    go_wp2
    all_goals
      go_ret
      refine ⟨ret_bool ?_, ?_⟩
      · unfold spOutside; simp [*]
      · (repeat' with_reducible (first | exact Keeps.refl _ _ | assumption | apply Keeps.drew | apply Keeps.drewN | apply Keeps.alloc | refine Keeps.trans ?_ hk1 | refine Keeps.trans ?_ hk2 | refine Keeps.trans ?_ hk3))
  · have h1' : 0 ≤ x1 := by omega
    have hd : decide (x1 < 0) = false := by simpa using h1
    by_cases h2 : x2 < 1
    · have hd2 : decide (x2 < 1) = true := by simpa using h2
      go_enter Try.func86, Try.ntmps86
      go_wp2_with fail
      go_quiet (fail)
      go_wp2
      all_goals
        go_ret
        refine ⟨ret_bool ?_, ?_⟩
        · unfold spOutside; simp [*]
        · (repeat' with_reducible (first | exact Keeps.refl _ _ | assumption | apply Keeps.drew | apply Keeps.drewN | apply Keeps.alloc | refine Keeps.trans ?_ hk1 | refine Keeps.trans ?_ hk2 | refine Keeps.trans ?_ hk3))
    · have hd2 : decide (x2 < 1) = false := by simpa using h2
      go_enter Try.func86, Try.ntmps86
      go_wp2_with fail
      have K1 : Blk ((w.alloc (.cells c.cells 31)).alloc (.cells #[.int .i64 x0, .int .i64 x1, .int .i64 x2] 65)) w.heap.size c.cells 31 := (Blk.new _ _ _).alloc _
      have K2 : Blk ((w.alloc (.cells c.cells 31)).alloc (.cells #[.int .i64 x0, .int .i64 x1, .int .i64 x2] 65)) (w.heap.size + 1) #[.int .i64 x0, .int .i64 x1, .int .i64 x2] 65 := Blk.newAt (by simp)
      go_region_held3 (fun w' => (∀ j, w'.cell? ⟨w.heap.size, j, none⟩ = (c.cells)[j]?) ∧ (∀ j, w'.cell? ⟨w.heap.size + 1, j, none⟩ = (#[.int .i64 x0, .int .i64 x1, .int .i64 x2] : Array Value)[j]?)) (first | exact ⟨K1.cell, K2.cell⟩ | exact ⟨(K1.drew.keep (l := []) hk1 (by simp)).cell, (K2.drew.keep (l := []) hk1 (by simp)).cell⟩)
        (first | (go_at_call 98; ((with_reducible refine (beyond_any _ _ _ _ _ h1' hl0.lo hl0.hi hx).mono ?_); rintro e w1 ⟨rfl, hk1⟩)))
      go_wp2
      all_goals
        go_ret
        refine ⟨ret_bool ?_, ?_⟩
        · unfold spOutside; simp [*]
        · (repeat' with_reducible (first | exact Keeps.refl _ _ | assumption | apply Keeps.drew | apply Keeps.drewN | apply Keeps.alloc | refine Keeps.trans ?_ hk1 | refine Keeps.trans ?_ hk2 | refine Keeps.trans ?_ hk3))

end Go.Proofs.Ytpkjffiajidfcaa

/- slices.IndexFunc and slices.ContainsFunc over parts, channels and windows. -/
namespace Go.Proofs.Ytpkjffiajidfcaa
open Go.RowKit

def idx (g : Nat → Bool) (n : Nat) : Int := match (List.range n).find? g with | none => -1 | some i => i
def anyOf (g : Nat → Bool) (n : Nat) : Bool := (List.range n).any g

theorem idx_none {g : Nat → Bool} {n : Nat} (h : ∀ j, j < n → g j = false) : idx g n = -1 := by
  unfold idx
  have : (List.range n).find? g = none := by
    rw [List.find?_eq_none]
    intro x hx
    simp [h x (by simpa using hx)]
  rw [this]

theorem find_range {g : Nat → Bool} : ∀ (n i : Nat), i < n → (∀ j, j < i → g j = false) → g i = true → (List.range n).find? g = some i := by
  intro n
  induction n with
  | zero => intro i h; omega
  | succ n ih =>
    intro i h h0 h1
    rw [List.range_succ, List.find?_append]
    by_cases e : i < n
    · rw [ih i e h0 h1]; rfl
    · obtain rfl : i = n := by omega
      have : (List.range i).find? g = none := by
        rw [List.find?_eq_none]
        intro x hx
        simp [h0 x (by simpa using hx)]
      rw [this]
      simp [h1]

theorem idx_some {g : Nat → Bool} {n i : Nat} (hi : i < n) (h : ∀ j, j < i → g j = false) (hg : g i = true) : idx g n = i := by
  unfold idx
  rw [find_range n i hi h hg]

theorem idx_ge (g : Nat → Bool) (n : Nat) : decide (0 ≤ idx g n) = anyOf g n := by
  unfold idx anyOf
  cases h : (List.range n).find? g with
  | none =>
    have : (List.range n).any g = false := by
      rw [List.any_eq_false]
      rw [List.find?_eq_none] at h
      exact h
    rw [this]; simp
  | some i =>
    have : (List.range n).any g = true := by
      rw [List.any_eq_true]
      exact ⟨i, List.mem_of_find?_eq_some h, List.find?_some h⟩
    rw [this]; simp

theorem idx_bd (g : Nat → Bool) (n : Nat) : -1 ≤ idx g n ∧ idx g n ≤ n := by
  unfold idx
  cases h : (List.range n).find? g with
  | none => simp
  | some i =>
    have := List.mem_of_find?_eq_some h
    simp at this
    simp
    omega


set_option maxRecDepth 100000 in
theorem IndexFunc_Part (k : Nat) (cap : Array Value) (a : Option Addr) (n cp : Nat) (f : Nat → Nat → Value) (g : Nat → Bool) (w : World) (hr : Rows w a n 2 f) (hn : n ≤ 140737488351232)
    (hcf : Enters k)
    (hf : ∀ i, i < n → ∀ W, Keeps [] w W → Calls Try.prog k (#[.agg #[f i 0, f i 1]] ++ cap) W (Says (.bool (g i)) W)) :
    Calls Try.prog 101 #[.slice a n cp, .func (.func k) #[] cap] w (Says (.int .i64 (idx g n)) w) := by
  unfold Enters at hcf
  have Hf := Lib.hid hf
  have Hr := Lib.hid hr
  clear hf hr
  go_enter Try.func101, Try.ntmps101
  go_wp2_with fail
  go_loopw [8] (fun v wr => ∃ i : Nat, i ≤ n ∧ v = .int .i64 i ∧ (∀ j, j < i → g j = false) ∧ Keeps [] w wr) (fun v _ => n - (intOf v).toNat)
  case atStart => exact ⟨0, Nat.zero_le _, rfl, by intro j hj; omega, Keeps.refl _ _⟩
  case round =>
    obtain ⟨i, hi, rfl, hg0, hk⟩ := hrel
    have Hg := Lib.hid hg0
    clear hg0
    by_cases hlt : i < n
    · obtain ⟨b, o, rfl, hb, hrow⟩ := Hr.out.resolve_left (by omega)
      have hi0 : (0 : Int) ≤ (i : Int) := Int.natCast_nonneg _
      have hi1 : (i : Int) < (n : Int) := by omega
      have c0 : wr.cell? ⟨b, o + i * 2, none⟩ = some (f i 0) := (Keeps.cell hk hb (by simp)).trans (by simpa using hrow i hlt 0 (by omega))
      have c1 : wr.cell? ⟨b, o + i * 2 + 1, none⟩ = some (f i 1) := (Keeps.cell hk hb (by simp)).trans (hrow i hlt 1 (by omega))
      have Hrow := Lib.hid hrow
      clear hrow
      cases hgi : g i
      · go_wp2_with fail
        refine (Hf.out i hlt _ hk).mono ?_
        rintro e w1 ⟨rfl, hk1⟩
        have hk2 : Keeps [] w w1 := hk.trans hk1
        clear hk hk1 c0 c1
        go_wp2
        go_roundw
        case rel =>
          refine ⟨i + 1, by omega, by go_num, ?_, hk2⟩
          intro j hj
          by_cases e : j = i
          · rw [e]; exact hgi
          · exact Hg.out j (by omega)
        case measure => simp [intOf]; omega
      · go_wp2_with fail
        refine (Hf.out i hlt _ hk).mono ?_
        rintro e w1 ⟨rfl, hk1⟩
        have hk2 : Keeps [] w w1 := hk.trans hk1
        clear hk hk1 c0 c1
        go_wp2
        go_ret
        exact ⟨ret_i64 (idx_some hlt Hg.out hgi).symm, hk2⟩
    · go_wp2
      go_ret
      exact ⟨ret_i64 (idx_none fun j hj => Hg.out j (by omega)).symm, hk⟩

theorem ContainsFunc_Part (k : Nat) (cap : Array Value) (a : Option Addr) (n cp : Nat) (f : Nat → Nat → Value) (g : Nat → Bool) (w : World) (hr : Rows w a n 2 f) (hn : n ≤ 140737488351232)
    (hcf : Enters k)
    (hf : ∀ i, i < n → ∀ W, Keeps [] w W → Calls Try.prog k (#[.agg #[f i 0, f i 1]] ++ cap) W (Says (.bool (g i)) W)) :
    Calls Try.prog 90 #[.slice a n cp, .func (.func k) #[] cap] w (Says (.bool (anyOf g n)) w) := by
  have hb := idx_bd g n
  have hge := idx_ge g n
  have H := IndexFunc_Part k cap a n cp f g w hr hn hcf hf
  clear hf hr hcf
  have H' := Lib.hid H
  clear H
  generalize idx g n = z at *
  go_enter Try.func90, Try.ntmps90
  go_wp2_with (first | (go_at_call 101; refine H'.out.mono ?_; rintro e w1 ⟨rfl, hk1⟩))
  go_ret
  exact ⟨ret_bool rfl, hk1⟩


set_option maxRecDepth 100000 in
theorem IndexFunc_Chan (k : Nat) (cap : Array Value) (a : Option Addr) (n cp : Nat) (f : Nat → Nat → Value) (g : Nat → Bool) (w : World) (hr : Rows w a n 7 f) (hn : n ≤ 140737488351232)
    (hcf : Enters k)
    (hf : ∀ i, i < n → ∀ W, Keeps [] w W → Calls Try.prog k (#[.agg #[f i 0, f i 1, f i 2, f i 3, f i 4, f i 5, f i 6]] ++ cap) W (Says (.bool (g i)) W)) :
    Calls Try.prog 102 #[.slice a n cp, .func (.func k) #[] cap] w (Says (.int .i64 (idx g n)) w) := by
  unfold Enters at hcf
  have Hf := Lib.hid hf
  have Hr := Lib.hid hr
  clear hf hr
  go_enter Try.func102, Try.ntmps102
  go_wp2_with fail
  go_loopw [8] (fun v wr => ∃ i : Nat, i ≤ n ∧ v = .int .i64 i ∧ (∀ j, j < i → g j = false) ∧ Keeps [] w wr) (fun v _ => n - (intOf v).toNat)
  case atStart => exact ⟨0, Nat.zero_le _, rfl, by intro j hj; omega, Keeps.refl _ _⟩
  case round =>
    obtain ⟨i, hi, rfl, hg0, hk⟩ := hrel
    have Hg := Lib.hid hg0
    clear hg0
    by_cases hlt : i < n
    · obtain ⟨b, o, rfl, hb, hrow⟩ := Hr.out.resolve_left (by omega)
      have hi0 : (0 : Int) ≤ (i : Int) := Int.natCast_nonneg _
      have hi1 : (i : Int) < (n : Int) := by omega
      have c0 : wr.cell? ⟨b, o + i * 7, none⟩ = some (f i 0) := (Keeps.cell hk hb (by simp)).trans (by simpa using hrow i hlt 0 (by omega))
      have c1 : wr.cell? ⟨b, o + i * 7 + 1, none⟩ = some (f i 1) := (Keeps.cell hk hb (by simp)).trans (hrow i hlt 1 (by omega))
      have c2 : wr.cell? ⟨b, o + i * 7 + 2, none⟩ = some (f i 2) := (Keeps.cell hk hb (by simp)).trans (hrow i hlt 2 (by omega))
      have c3 : wr.cell? ⟨b, o + i * 7 + 3, none⟩ = some (f i 3) := (Keeps.cell hk hb (by simp)).trans (hrow i hlt 3 (by omega))
      have c4 : wr.cell? ⟨b, o + i * 7 + 4, none⟩ = some (f i 4) := (Keeps.cell hk hb (by simp)).trans (hrow i hlt 4 (by omega))
      have c5 : wr.cell? ⟨b, o + i * 7 + 5, none⟩ = some (f i 5) := (Keeps.cell hk hb (by simp)).trans (hrow i hlt 5 (by omega))
      have c6 : wr.cell? ⟨b, o + i * 7 + 6, none⟩ = some (f i 6) := (Keeps.cell hk hb (by simp)).trans (hrow i hlt 6 (by omega))
      have Hrow := Lib.hid hrow
      clear hrow
      cases hgi : g i
      · go_wp2_with fail
        refine (Hf.out i hlt _ hk).mono ?_
        rintro e w1 ⟨rfl, hk1⟩
        have hk2 : Keeps [] w w1 := hk.trans hk1
        clear hk hk1 c0 c1 c2 c3 c4 c5 c6
        go_wp2
        go_roundw
        case rel =>
          refine ⟨i + 1, by omega, by go_num, ?_, hk2⟩
          intro j hj
          by_cases e : j = i
          · rw [e]; exact hgi
          · exact Hg.out j (by omega)
        case measure => simp [intOf]; omega
      · go_wp2_with fail
        refine (Hf.out i hlt _ hk).mono ?_
        rintro e w1 ⟨rfl, hk1⟩
        have hk2 : Keeps [] w w1 := hk.trans hk1
        clear hk hk1 c0 c1 c2 c3 c4 c5 c6
        go_wp2
        go_ret
        exact ⟨ret_i64 (idx_some hlt Hg.out hgi).symm, hk2⟩
    · go_wp2
      go_ret
      exact ⟨ret_i64 (idx_none fun j hj => Hg.out j (by omega)).symm, hk⟩

theorem ContainsFunc_Chan (k : Nat) (cap : Array Value) (a : Option Addr) (n cp : Nat) (f : Nat → Nat → Value) (g : Nat → Bool) (w : World) (hr : Rows w a n 7 f) (hn : n ≤ 140737488351232)
    (hcf : Enters k)
    (hf : ∀ i, i < n → ∀ W, Keeps [] w W → Calls Try.prog k (#[.agg #[f i 0, f i 1, f i 2, f i 3, f i 4, f i 5, f i 6]] ++ cap) W (Says (.bool (g i)) W)) :
    Calls Try.prog 92 #[.slice a n cp, .func (.func k) #[] cap] w (Says (.bool (anyOf g n)) w) := by
  have hb := idx_bd g n
  have hge := idx_ge g n
  have H := IndexFunc_Chan k cap a n cp f g w hr hn hcf hf
  clear hf hr hcf
  have H' := Lib.hid H
  clear H
  generalize idx g n = z at *
  go_enter Try.func92, Try.ntmps92
  go_wp2_with (first | (go_at_call 102; refine H'.out.mono ?_; rintro e w1 ⟨rfl, hk1⟩))
  go_ret
  exact ⟨ret_bool rfl, hk1⟩


set_option maxRecDepth 100000 in
theorem IndexFunc_Window (k : Nat) (cap : Array Value) (a : Option Addr) (n cp : Nat) (f : Nat → Nat → Value) (g : Nat → Bool) (w : World) (hr : Rows w a n 3 f) (hn : n ≤ 140737488351232)
    (hcf : Enters k)
    (hf : ∀ i, i < n → ∀ W, Keeps [] w W → Calls Try.prog k (#[.agg #[f i 0, f i 1, f i 2]] ++ cap) W (Says (.bool (g i)) W)) :
    Calls Try.prog 103 #[.slice a n cp, .func (.func k) #[] cap] w (Says (.int .i64 (idx g n)) w) := by
  unfold Enters at hcf
  have Hf := Lib.hid hf
  have Hr := Lib.hid hr
  clear hf hr
  go_enter Try.func103, Try.ntmps103
  go_wp2_with fail
  go_loopw [8] (fun v wr => ∃ i : Nat, i ≤ n ∧ v = .int .i64 i ∧ (∀ j, j < i → g j = false) ∧ Keeps [] w wr) (fun v _ => n - (intOf v).toNat)
  case atStart => exact ⟨0, Nat.zero_le _, rfl, by intro j hj; omega, Keeps.refl _ _⟩
  case round =>
    obtain ⟨i, hi, rfl, hg0, hk⟩ := hrel
    have Hg := Lib.hid hg0
    clear hg0
    by_cases hlt : i < n
    · obtain ⟨b, o, rfl, hb, hrow⟩ := Hr.out.resolve_left (by omega)
      have hi0 : (0 : Int) ≤ (i : Int) := Int.natCast_nonneg _
      have hi1 : (i : Int) < (n : Int) := by omega
      have c0 : wr.cell? ⟨b, o + i * 3, none⟩ = some (f i 0) := (Keeps.cell hk hb (by simp)).trans (by simpa using hrow i hlt 0 (by omega))
      have c1 : wr.cell? ⟨b, o + i * 3 + 1, none⟩ = some (f i 1) := (Keeps.cell hk hb (by simp)).trans (hrow i hlt 1 (by omega))
      have c2 : wr.cell? ⟨b, o + i * 3 + 2, none⟩ = some (f i 2) := (Keeps.cell hk hb (by simp)).trans (hrow i hlt 2 (by omega))
      have Hrow := Lib.hid hrow
      clear hrow
      cases hgi : g i
      · go_wp2_with fail
        refine (Hf.out i hlt _ hk).mono ?_
        rintro e w1 ⟨rfl, hk1⟩
        have hk2 : Keeps [] w w1 := hk.trans hk1
        clear hk hk1 c0 c1 c2
        go_wp2
        go_roundw
        case rel =>
          refine ⟨i + 1, by omega, by go_num, ?_, hk2⟩
          intro j hj
          by_cases e : j = i
          · rw [e]; exact hgi
          · exact Hg.out j (by omega)
        case measure => simp [intOf]; omega
      · go_wp2_with fail
        refine (Hf.out i hlt _ hk).mono ?_
        rintro e w1 ⟨rfl, hk1⟩
        have hk2 : Keeps [] w w1 := hk.trans hk1
        clear hk hk1 c0 c1 c2
        go_wp2
        go_ret
        exact ⟨ret_i64 (idx_some hlt Hg.out hgi).symm, hk2⟩
    · go_wp2
      go_ret
      exact ⟨ret_i64 (idx_none fun j hj => Hg.out j (by omega)).symm, hk⟩

theorem ContainsFunc_Window (k : Nat) (cap : Array Value) (a : Option Addr) (n cp : Nat) (f : Nat → Nat → Value) (g : Nat → Bool) (w : World) (hr : Rows w a n 3 f) (hn : n ≤ 140737488351232)
    (hcf : Enters k)
    (hf : ∀ i, i < n → ∀ W, Keeps [] w W → Calls Try.prog k (#[.agg #[f i 0, f i 1, f i 2]] ++ cap) W (Says (.bool (g i)) W)) :
    Calls Try.prog 96 #[.slice a n cp, .func (.func k) #[] cap] w (Says (.bool (anyOf g n)) w) := by
  have hb := idx_bd g n
  have hge := idx_ge g n
  have H := IndexFunc_Window k cap a n cp f g w hr hn hcf hf
  clear hf hr hcf
  have H' := Lib.hid H
  clear H
  generalize idx g n = z at *
  go_enter Try.func96, Try.ntmps96
  go_wp2_with (first | (go_at_call 103; refine H'.out.mono ?_; rintro e w1 ⟨rfl, hk1⟩))
  go_ret
  exact ⟨ret_bool rfl, hk1⟩

end Go.Proofs.Ytpkjffiajidfcaa

/- The closures of package defect. -/
namespace Go.Proofs.Ytpkjffiajidfcaa
open Go.RowKit



theorem part1_any (k pb : Nat) (g : Int → Int → Bool) (c : CfgV) (w : World) (hcf : Enters k) (hbad : ∀ x0 x1 W, Calls Try.prog k #[.agg #[.int .i64 x0, .int .i64 x1]] W (Says (.bool (g x0 x1)) W))
    (hp : Blk w pb #[.func (.func k) #[] #[]] 115) (h : CfgAt w c) :
    Calls Try.prog 89 #[.agg c.cells, .pointer (some ⟨pb, 0, none⟩)] w (Says (.bool (anyOf (fun i => g (c.part i 0) (c.part i 1)) c.pn)) w) := by
  have hpc : w.cell? ⟨pb, 0, none⟩ = some (.func (.func k) #[] #[]) := hp.cell 0
  have hpl := hp.lt
  have hn := h.pn
  have Hr := Lib.hid h.parts
  have Hcf := Lib.hid hcf
  have Hbad := Lib.hid hbad
  clear hcf hbad
  clear h hp
  generalize hG : anyOf (fun i => g (c.part i 0) (c.part i 1)) c.pn = G
  have HG := Lib.hid hG
  clear hG
  go_enter Try.func89, Try.ntmps89
  go_wp2_with (first | (go_at_call 90; ((with_reducible refine (ContainsFunc_Part k #[] c.pa c.pn c.pc (i64s c.part) (fun i => g (c.part i 0) (c.part i 1)) _ ?_ hn Hcf.out ?_).mono ?_); (exact Rows.keep (l := []) Hr.out (by (repeat' with_reducible (first | exact Keeps.refl _ _ | assumption | apply Keeps.drew | apply Keeps.drewN | apply Keeps.alloc | refine Keeps.trans ?_ hk1 | refine Keeps.trans ?_ hk2 | refine Keeps.trans ?_ hk3))) (by simp)); (intro i _ W _; exact Hbad.out _ _ W)); rintro e w1 ⟨rfl, hk1⟩; rw [HG.out]))
  go_ret
  exact ⟨ret_bool rfl, by (repeat' with_reducible (first | exact Keeps.refl _ _ | assumption | apply Keeps.drew | apply Keeps.drewN | apply Keeps.alloc | refine Keeps.trans ?_ hk1 | refine Keeps.trans ?_ hk2 | refine Keeps.trans ?_ hk3))⟩


theorem channel11_any (k pb cb : Nat) (g : Bool) (c : CfgV) (x0 x1 x2 x3 x4 x5 x6 : Int) (w : World) (hcf : Enters k) (hbad : ∀ W, Keeps [] w W → Calls Try.prog k #[.agg c.cells, .agg #[.int .i64 x0, .int .i64 x1, .int .i64 x2, .int .i64 x3, .int .i64 x4, .int .i64 x5, .int .u32 x6]] W (Says (.bool g) W))
    (hp : Blk w pb #[.func (.func k) #[] #[]] 117) (hc : Blk w cb c.cells 31) :
    Calls Try.prog 93 #[.agg #[.int .i64 x0, .int .i64 x1, .int .i64 x2, .int .i64 x3, .int .i64 x4, .int .i64 x5, .int .u32 x6], .pointer (some ⟨pb, 0, none⟩), .pointer (some ⟨cb, 0, none⟩)] w (Says (.bool g) w) := by
  have hpc : w.cell? ⟨pb, 0, none⟩ = some (.func (.func k) #[] #[]) := hp.cell 0
  have hcc : ∀ j, w.cell? ⟨cb, j, none⟩ = (c.cells)[j]? := hc.cell
  have hpl := hp.lt
  have hcl := hc.lt
  unfold Enters at hcf
  have Hbad := Lib.hid hbad
  clear hp hc hbad
  go_enter Try.func93, Try.ntmps93
  go_wp2_with fail
  refine (Hbad.out _ ?_).mono ?_
  · (repeat' with_reducible (first | exact Keeps.refl _ _ | assumption | apply Keeps.drew | apply Keeps.drewN | apply Keeps.alloc | refine Keeps.trans ?_ hk1 | refine Keeps.trans ?_ hk2 | refine Keeps.trans ?_ hk3))
  rintro e w1 ⟨rfl, hk1⟩
  go_wp2
  go_ret
  exact ⟨ret_bool rfl, by (repeat' with_reducible (first | exact Keeps.refl _ _ | assumption | apply Keeps.drew | apply Keeps.drewN | apply Keeps.alloc | refine Keeps.trans ?_ hk1 | refine Keeps.trans ?_ hk2 | refine Keeps.trans ?_ hk3))⟩


theorem channel1_any (k pb : Nat) (g : CfgV → Int → Int → Int → Int → Int → Int → Int → Bool) (c : CfgV) (w : World) (hcf : Enters k) (hbad : ∀ x0 x1 x2 x3 x4 x5 x6 W, Calls Try.prog k #[.agg c.cells, .agg #[.int .i64 x0, .int .i64 x1, .int .i64 x2, .int .i64 x3, .int .i64 x4, .int .i64 x5, .int .u32 x6]] W (Says (.bool (g c x0 x1 x2 x3 x4 x5 x6)) W))
    (hp : Blk w pb #[.func (.func k) #[] #[]] 117) (h : CfgAt w c) (hcf2 : Enters 93) :
    Calls Try.prog 91 #[.agg c.cells, .pointer (some ⟨pb, 0, none⟩)] w (Says (.bool (anyOf (fun i => g c (c.chan i 0) (c.chan i 1) (c.chan i 2) (c.chan i 3) (c.chan i 4) (c.chan i 5) (c.chan i 6)) c.cn)) w) := by
  have hpl := hp.lt
  have hn := h.cn
  have Hr := Lib.hid h.chans
  have Hcf := Lib.hid hcf
  have Hcf2 := Lib.hid hcf2
  have Hbad := Lib.hid hbad
  have Hp := Lib.hid hp
  clear h hp hcf hbad hcf2
  have hmf : ∀ (fn : Fn) (first cap : Array Value) (w : World), (Instr.makeFunc fn first cap).run Try.prog w = .ok (.func fn first cap) w := fun _ _ _ _ => rfl
  generalize hG : anyOf (fun i => g c (c.chan i 0) (c.chan i 1) (c.chan i 2) (c.chan i 3) (c.chan i 4) (c.chan i 5) (c.chan i 6)) c.cn = G
  have HG := Lib.hid hG
  clear hG
  go_enter Try.func91, Try.ntmps91
  go_wp2_with (first | (go_at_call 92; ((with_reducible refine (ContainsFunc_Chan 93 #[.pointer (some ⟨pb, 0, none⟩), .pointer (some ⟨w.heap.size, 0, none⟩)] c.ca c.cn c.cc (chs c.chan) (fun i => g c (c.chan i 0) (c.chan i 1) (c.chan i 2) (c.chan i 3) (c.chan i 4) (c.chan i 5) (c.chan i 6)) _ ?_ hn Hcf2.out ?_).mono ?_); (exact Rows.keep (l := []) Hr.out (by (repeat' with_reducible (first | exact Keeps.refl _ _ | assumption | apply Keeps.drew | apply Keeps.drewN | apply Keeps.alloc | refine Keeps.trans ?_ hk1 | refine Keeps.trans ?_ hk2 | refine Keeps.trans ?_ hk3))) (by simp)); (intro i _ W hW; exact channel11_any k pb w.heap.size _ c _ _ _ _ _ _ _ W Hcf.out (fun W' _ => Hbad.out _ _ _ _ _ _ _ W') ((Hp.out.alloc _).keep hW (by simp)) ((Blk.new _ _ _).keep hW (by simp)))); rintro e w1 ⟨rfl, hk1⟩; rw [HG.out]))
  go_ret
  exact ⟨ret_bool rfl, by (repeat' with_reducible (first | exact Keeps.refl _ _ | assumption | apply Keeps.drew | apply Keeps.drewN | apply Keeps.alloc | refine Keeps.trans ?_ hk1 | refine Keeps.trans ?_ hk2 | refine Keeps.trans ?_ hk3))⟩


theorem frame1_any (k pb : Nat) (cap : Array Value) (g0 g1 : Bool) (c : CfgV) (w : World) (hcf : Enters k)
    (hbad0 : ∀ W, Keeps [] w W → Calls Try.prog k (#[.agg c.cells, .int .i64 0] ++ cap) W (Says (.bool g0) W)) (hbad1 : ∀ W, Keeps [] w W → Calls Try.prog k (#[.agg c.cells, .int .i64 1] ++ cap) W (Says (.bool g1) W))
    (hp : Blk w pb #[.func (.func k) #[] cap] 88) :
    Calls Try.prog 94 #[.agg c.cells, .pointer (some ⟨pb, 0, none⟩)] w (Says (.bool (g0 || g1)) w) := by
  have hpl := hp.lt
  have hpc : w.cell? ⟨pb, 0, none⟩ = some (.func (.func k) #[] cap) := hp.cell 0
  have Hp := Lib.hid hp
  unfold Enters at hcf
  have Hbad0 := Lib.hid hbad0
  have Hbad1 := Lib.hid hbad1
  clear hp hbad0 hbad1
  cases g0
  · go_enter Try.func94, Try.ntmps94
    go_wp2_with fail
    refine (Hbad0.out _ ?_).mono ?_
    · (repeat' with_reducible (first | exact Keeps.refl _ _ | assumption | apply Keeps.drew | apply Keeps.drewN | apply Keeps.alloc | refine Keeps.trans ?_ hk1 | refine Keeps.trans ?_ hk2 | refine Keeps.trans ?_ hk3))
    rintro e w1 ⟨rfl, hk1⟩
    have hpc1 : w1.cell? ⟨pb, 0, none⟩ = some (.func (.func k) #[] cap) := ((Hp.out.alloc _).keep hk1 (by simp)).cell 0
    have hcc1 : ∀ j, w1.cell? ⟨w.heap.size, j, none⟩ = (c.cells)[j]? := ((Blk.new w c.cells 31).keep hk1 (by simp)).cell
    go_wp2_with fail
    refine (Hbad1.out _ ?_).mono ?_
    · (repeat' with_reducible (first | exact Keeps.refl _ _ | assumption | apply Keeps.drew | apply Keeps.drewN | apply Keeps.alloc | refine Keeps.trans ?_ hk1 | refine Keeps.trans ?_ hk2 | refine Keeps.trans ?_ hk3))
    rintro e w2 ⟨rfl, hk2⟩
    go_wp2
    go_ret
    exact ⟨ret_bool rfl, by (repeat' with_reducible (first | exact Keeps.refl _ _ | assumption | apply Keeps.drew | apply Keeps.drewN | apply Keeps.alloc | refine Keeps.trans ?_ hk1 | refine Keeps.trans ?_ hk2 | refine Keeps.trans ?_ hk3))⟩
  · go_enter Try.func94, Try.ntmps94
    go_wp2_with fail
    refine (Hbad0.out _ ?_).mono ?_
    · (repeat' with_reducible (first | exact Keeps.refl _ _ | assumption | apply Keeps.drew | apply Keeps.drewN | apply Keeps.alloc | refine Keeps.trans ?_ hk1 | refine Keeps.trans ?_ hk2 | refine Keeps.trans ?_ hk3))
    rintro e w1 ⟨rfl, hk1⟩
    go_wp2
    go_ret
    exact ⟨ret_bool rfl, by (repeat' with_reducible (first | exact Keeps.refl _ _ | assumption | apply Keeps.drew | apply Keeps.drewN | apply Keeps.alloc | refine Keeps.trans ?_ hk1 | refine Keeps.trans ?_ hk2 | refine Keeps.trans ?_ hk3))⟩


theorem window11_any (k pb cb ib : Nat) (g : Bool) (c : CfgV) (core : Int) (x0 x1 x2 : Int) (w : World) (hcf : Enters k) (hbad : ∀ W, Keeps [] w W → Calls Try.prog k #[.agg c.cells, .int .i64 core, .agg #[.int .i64 x0, .int .i64 x1, .int .i64 x2]] W (Says (.bool g) W))
    (hp : Blk w pb #[.func (.func k) #[] #[]] 121) (hc : Blk w cb c.cells 31) (hi : Blk w ib #[.int .i64 core] 3) :
    Calls Try.prog 97 #[.agg #[.int .i64 x0, .int .i64 x1, .int .i64 x2], .pointer (some ⟨pb, 0, none⟩), .pointer (some ⟨cb, 0, none⟩), .pointer (some ⟨ib, 0, none⟩)] w (Says (.bool g) w) := by
  have hpc : w.cell? ⟨pb, 0, none⟩ = some (.func (.func k) #[] #[]) := hp.cell 0
  have hcc : ∀ j, w.cell? ⟨cb, j, none⟩ = (c.cells)[j]? := hc.cell
  have hic : w.cell? ⟨ib, 0, none⟩ = some (.int .i64 core) := hi.cell 0
  have hpl := hp.lt
  have hcl := hc.lt
  have hil := hi.lt
  unfold Enters at hcf
  have Hbad := Lib.hid hbad
  clear hp hc hi hbad
  go_enter Try.func97, Try.ntmps97
  go_wp2_with fail
  refine (Hbad.out _ ?_).mono ?_
  · (repeat' with_reducible (first | exact Keeps.refl _ _ | assumption | apply Keeps.drew | apply Keeps.drewN | apply Keeps.alloc | refine Keeps.trans ?_ hk1 | refine Keeps.trans ?_ hk2 | refine Keeps.trans ?_ hk3))
  rintro e w1 ⟨rfl, hk1⟩
  go_wp2
  go_ret
  exact ⟨ret_bool rfl, by (repeat' with_reducible (first | exact Keeps.refl _ _ | assumption | apply Keeps.drew | apply Keeps.drewN | apply Keeps.alloc | refine Keeps.trans ?_ hk1 | refine Keeps.trans ?_ hk2 | refine Keeps.trans ?_ hk3))⟩


theorem window1_0 (k pb : Nat) (g : Int → Int → Int → Bool) (c : CfgV) (w : World) (hcf : Enters k)
    (hbad : ∀ i, i < c.w0n → ∀ W, Keeps [] w W → Calls Try.prog k #[.agg c.cells, .int .i64 0, .agg #[.int .i64 (c.win0 i 0), .int .i64 (c.win0 i 1), .int .i64 (c.win0 i 2)]] W (Says (.bool (g (c.win0 i 0) (c.win0 i 1) (c.win0 i 2))) W))
    (hp : Blk w pb #[.func (.func k) #[] #[]] 121) (h : CfgAt w c) (hcf2 : Enters 97) :
    Calls Try.prog 95 #[.agg c.cells, .int .i64 0, .pointer (some ⟨pb, 0, none⟩)] w (Says (.bool (anyOf (fun i => g (c.win0 i 0) (c.win0 i 1) (c.win0 i 2)) c.w0n)) w) := by
  have hpl := hp.lt
  have hn := h.w0n
  have Hr := Lib.hid h.wins0
  have Hcf := Lib.hid hcf
  have Hcf2 := Lib.hid hcf2
  have Hbad := Lib.hid hbad
  have Hp := Lib.hid hp
  clear h hp hcf hbad hcf2
  have hmf : ∀ (fn : Fn) (first cap : Array Value) (w : World), (Instr.makeFunc fn first cap).run Try.prog w = .ok (.func fn first cap) w := fun _ _ _ _ => rfl
  generalize hG : anyOf (fun i => g (c.win0 i 0) (c.win0 i 1) (c.win0 i 2)) c.w0n = G
  have HG := Lib.hid hG
  clear hG
  go_enter Try.func95, Try.ntmps95
  go_wp2_with (first | (go_at_call 96; ((with_reducible refine (ContainsFunc_Window 97 #[.pointer (some ⟨pb, 0, none⟩), .pointer (some ⟨w.heap.size, 0, none⟩), .pointer (some ⟨w.heap.size + 1, 0, none⟩)] c.w0a c.w0n c.w0c (i64s c.win0) (fun i => g (c.win0 i 0) (c.win0 i 1) (c.win0 i 2)) _ ?_ hn Hcf2.out ?_).mono ?_); (exact Rows.keep (l := []) Hr.out (by (repeat' with_reducible (first | exact Keeps.refl _ _ | assumption | apply Keeps.drew | apply Keeps.drewN | apply Keeps.alloc | refine Keeps.trans ?_ hk1 | refine Keeps.trans ?_ hk2 | refine Keeps.trans ?_ hk3))) (by simp)); (intro i hi W hW; exact window11_any k pb w.heap.size (w.heap.size + 1) _ c 0 _ _ _ W Hcf.out (fun W' hW' => Hbad.out i hi W' ((Keeps.trans (by (repeat' with_reducible (first | exact Keeps.refl _ _ | assumption | apply Keeps.drew | apply Keeps.drewN | apply Keeps.alloc | refine Keeps.trans ?_ hk1 | refine Keeps.trans ?_ hk2 | refine Keeps.trans ?_ hk3))) hW).trans hW')) (((Hp.out.alloc _).alloc _).keep hW (by simp)) (((Blk.new _ _ _).alloc _).keep hW (by simp)) ((Blk.newAt (by simp)).keep hW (by simp)))); rintro e w1 ⟨rfl, hk1⟩; rw [HG.out]))
  go_ret
  exact ⟨ret_bool rfl, by (repeat' with_reducible (first | exact Keeps.refl _ _ | assumption | apply Keeps.drew | apply Keeps.drewN | apply Keeps.alloc | refine Keeps.trans ?_ hk1 | refine Keeps.trans ?_ hk2 | refine Keeps.trans ?_ hk3))⟩


theorem window1_1 (k pb : Nat) (g : Int → Int → Int → Bool) (c : CfgV) (w : World) (hcf : Enters k)
    (hbad : ∀ i, i < c.w1n → ∀ W, Keeps [] w W → Calls Try.prog k #[.agg c.cells, .int .i64 1, .agg #[.int .i64 (c.win1 i 0), .int .i64 (c.win1 i 1), .int .i64 (c.win1 i 2)]] W (Says (.bool (g (c.win1 i 0) (c.win1 i 1) (c.win1 i 2))) W))
    (hp : Blk w pb #[.func (.func k) #[] #[]] 121) (h : CfgAt w c) (hcf2 : Enters 97) :
    Calls Try.prog 95 #[.agg c.cells, .int .i64 1, .pointer (some ⟨pb, 0, none⟩)] w (Says (.bool (anyOf (fun i => g (c.win1 i 0) (c.win1 i 1) (c.win1 i 2)) c.w1n)) w) := by
  have hpl := hp.lt
  have hn := h.w1n
  have Hr := Lib.hid h.wins1
  have Hcf := Lib.hid hcf
  have Hcf2 := Lib.hid hcf2
  have Hbad := Lib.hid hbad
  have Hp := Lib.hid hp
  clear h hp hcf hbad hcf2
  have hmf : ∀ (fn : Fn) (first cap : Array Value) (w : World), (Instr.makeFunc fn first cap).run Try.prog w = .ok (.func fn first cap) w := fun _ _ _ _ => rfl
  generalize hG : anyOf (fun i => g (c.win1 i 0) (c.win1 i 1) (c.win1 i 2)) c.w1n = G
  have HG := Lib.hid hG
  clear hG
  go_enter Try.func95, Try.ntmps95
  go_wp2_with (first | (go_at_call 96; ((with_reducible refine (ContainsFunc_Window 97 #[.pointer (some ⟨pb, 0, none⟩), .pointer (some ⟨w.heap.size, 0, none⟩), .pointer (some ⟨w.heap.size + 1, 0, none⟩)] c.w1a c.w1n c.w1c (i64s c.win1) (fun i => g (c.win1 i 0) (c.win1 i 1) (c.win1 i 2)) _ ?_ hn Hcf2.out ?_).mono ?_); (exact Rows.keep (l := []) Hr.out (by (repeat' with_reducible (first | exact Keeps.refl _ _ | assumption | apply Keeps.drew | apply Keeps.drewN | apply Keeps.alloc | refine Keeps.trans ?_ hk1 | refine Keeps.trans ?_ hk2 | refine Keeps.trans ?_ hk3))) (by simp)); (intro i hi W hW; exact window11_any k pb w.heap.size (w.heap.size + 1) _ c 1 _ _ _ W Hcf.out (fun W' hW' => Hbad.out i hi W' ((Keeps.trans (by (repeat' with_reducible (first | exact Keeps.refl _ _ | assumption | apply Keeps.drew | apply Keeps.drewN | apply Keeps.alloc | refine Keeps.trans ?_ hk1 | refine Keeps.trans ?_ hk2 | refine Keeps.trans ?_ hk3))) hW).trans hW')) (((Hp.out.alloc _).alloc _).keep hW (by simp)) (((Blk.new _ _ _).alloc _).keep hW (by simp)) ((Blk.newAt (by simp)).keep hW (by simp)))); rintro e w1 ⟨rfl, hk1⟩; rw [HG.out]))
  go_ret
  exact ⟨ret_bool rfl, by (repeat' with_reducible (first | exact Keeps.refl _ _ | assumption | apply Keeps.drew | apply Keeps.drewN | apply Keeps.alloc | refine Keeps.trans ?_ hk1 | refine Keeps.trans ?_ hk2 | refine Keeps.trans ?_ hk3))⟩

end Go.Proofs.Ytpkjffiajidfcaa

/- small, crossed and idle of package defect. -/
namespace Go.Proofs.Ytpkjffiajidfcaa
open Go.RowKit

theorem anyOf_true {g : Nat → Bool} {n i : Nat} (hi : i < n) (hg : g i = true) : anyOf g n = true := by
  unfold anyOf
  rw [List.any_eq_true]
  exact ⟨i, by simpa using hi, hg⟩

theorem anyOf_false {g : Nat → Bool} {n : Nat} (h : ∀ j, j < n → g j = false) : anyOf g n = false := by
  unfold anyOf
  rw [List.any_eq_false]
  intro x hx
  simp [h x (by simpa using hx)]

def spSmall (f : Nat → Int) (n : Nat) : Bool := !anyOf (fun i => !inR (f i) 0 4294967295) n


theorem small_any (b n cp : Nat) (f : Nat → Int) (w : World) (hr : Rows w (some ⟨b, 0, none⟩) n 1 (fun i _ => .int .i64 (f i))) (hn : n ≤ 140737488351232) :
    Calls Try.prog 99 #[.slice (some ⟨b, 0, none⟩) n cp] w (Says (.bool (spSmall f n)) w) := by
  have Hr := Lib.hid hr
  clear hr
  go_enter Try.func99, Try.ntmps99
  go_wp2_with fail
  go_loopw [7] (fun v wr => ∃ i : Nat, i ≤ n ∧ v = .int .i64 i ∧ (∀ j, j < i → (!inR (f j) 0 4294967295) = false) ∧ Keeps [] w wr) (fun v _ => n - (intOf v).toNat)
  case atStart => exact ⟨0, Nat.zero_le _, rfl, by intro j hj; omega, Keeps.refl _ _⟩
  case round =>
    obtain ⟨i, hi, rfl, hg0, hk⟩ := hrel
    have Hg := Lib.hid hg0
    clear hg0
    by_cases hlt : i < n
    · obtain ⟨b', o', he, hb, hrow⟩ := Hr.out.resolve_left (by omega)
      simp only [Option.some.injEq, Addr.mk.injEq, and_true] at he
      obtain ⟨rfl, rfl⟩ := he
      have hi0 : (0 : Int) ≤ (i : Int) := Int.natCast_nonneg _
      have hi1 : (i : Int) < (n : Int) := by omega
      have c0 : wr.cell? ⟨b, i, none⟩ = some (.int .i64 (f i)) := (Keeps.cell hk hb (by simp)).trans (by simpa using hrow i hlt 0 (by omega))
      have Hrow := Lib.hid hrow
      clear hrow
      cases hgi : inR (f i) 0 4294967295
      · go_wp2_with (first | (go_at_call 65; refine (within_any _ _ _ _).mono ?_; rintro e w1 ⟨rfl, hk1⟩))
        go_ret
        refine ⟨ret_bool ?_, hk.trans hk1⟩
        unfold spSmall
        rw [anyOf_true hlt (by simp [hgi])]; rfl
      · go_wp2_with (first | (go_at_call 65; refine (within_any _ _ _ _).mono ?_; rintro e w1 ⟨rfl, hk1⟩))
        go_roundw
        case rel =>
          refine ⟨i + 1, by omega, by go_num, ?_, hk.trans hk1⟩
          intro j hj
          by_cases e : j = i
          · rw [e, hgi]; rfl
          · exact Hg.out j (by omega)
        case measure => simp [intOf]; omega
    · go_wp2
      go_ret
      refine ⟨ret_bool ?_, hk⟩
      unfold spSmall
      rw [anyOf_false fun j hj => Hg.out j (by omega)]; rfl


def spCross (f : Nat → Nat → Int) (i : Nat) : Bool :=
  spSmall (fun j => if j = 0 then f i 1 else if j = 1 then f i 2 else f (i + 1) 1) 3 && decide (f (i + 1) 1 < f i 1 + f i 2)
def spCrossed (f : Nat → Nat → Int) (n : Nat) : Bool := anyOf (spCross f) (n - 1)

theorem rows3 {w : World} {b : Nat} {x y z : Int} {t : TypeId} (h : Blk w b #[.int .i64 x, .int .i64 y, .int .i64 z] t) :
    Rows w (some ⟨b, 0, none⟩) 3 1 (fun i _ => .int .i64 ((fun j : Nat => if j = 0 then x else if j = 1 then y else z) i)) := by
  refine .inr ⟨b, 0, rfl, h.lt, fun i hi j hj => ?_⟩
  obtain rfl : j = 0 := by omega
  rw [h.cell]
  match i, hi with
  | 0, _ => rfl
  | 1, _ => rfl
  | 2, _ => rfl

theorem small_bd {f : Nat → Int} (h : spSmall f 3 = true) : ∀ j, j < 3 → 0 ≤ f j ∧ f j ≤ 4294967295 := by
  intro j hj
  by_cases e : inR (f j) 0 4294967295 = true
  · unfold inR at e
    simp at e
    omega
  · unfold spSmall at h
    rw [anyOf_true hj (by simpa using e)] at h
    simp at h


set_option maxRecDepth 100000 in
theorem crossed_0 (c : CfgV) (w : World) (h : CfgAt w c) :
    Calls Try.prog 87 #[.agg c.cells, .int .i64 0] w (Says (.bool (spCrossed c.win0 c.w0n)) w) := by
  have hn := h.w0n
  have Hr := Lib.hid h.wins0
  clear h
  generalize hf : c.win0 = f at *
  generalize hG : spCrossed f c.w0n = G
  have HG := Lib.hid hG
  clear hG hf
  simp only [CfgV.cells]
  go_enter Try.func87, Try.ntmps87
  go_wp2_with fail
  generalize hna : c.w0n = n at *
  generalize c.w0a = a at *
  generalize c.w0c = cp at *
  clear hna
  go_loopw [6] (fun v wr => ∃ m : Nat, (m + 1 ≤ n ∨ m = 0) ∧ v = .int .i64 ((m : Int) + 1) ∧ (∀ j, j < m → spCross f j = false) ∧ Keeps [] w wr) (fun v _ => n + 1 - (intOf v).toNat)
  case atStart => exact ⟨0, .inr rfl, rfl, by intro j hj; omega, (Keeps.refl _ _).alloc _⟩
  case round =>
    obtain ⟨m, hi, rfl, hg0, hk⟩ := hrel
    have Hg := Lib.hid hg0
    clear hg0
    by_cases hlt : m + 1 < n
    · obtain ⟨b, o, rfl, hb, hrow⟩ := Hr.out.resolve_left (by omega)
      have hi0 : (0 : Int) ≤ (m : Int) := Int.natCast_nonneg _
      have hi1 : (m : Int) + 1 < (n : Int) := by omega
      have hi2 : (m : Int) < (n : Int) := by omega
      have hi3 : (0 : Int) ≤ (m : Int) + 1 := by omega
      have hw1 : IntKind.i64.wrap ((m : Int) + 1 - 1) = (m : Int) := by rw [Int.add_sub_cancel]; exact wrap_i64m (by omega) (by omega)
      have hw2 : IntKind.i64.wrap (m : Int) = (m : Int) := wrap_i64m (by omega) (by omega)
      have hnat : ((m : Int) + 1).toNat = m + 1 := by omega
      have hbr : b < wr.heap.size := Nat.lt_of_lt_of_le hb hk.size
      have c0 : wr.cell? ⟨b, o + m * 3, none⟩ = some (.int .i64 (f m 0)) := (Keeps.cell hk hb (by simp)).trans (by simpa [i64s] using hrow m (by omega) 0 (by omega))
      have c1 : wr.cell? ⟨b, o + m * 3 + 1, none⟩ = some (.int .i64 (f m 1)) := (Keeps.cell hk hb (by simp)).trans (hrow m (by omega) 1 (by omega))
      have c2 : wr.cell? ⟨b, o + m * 3 + 2, none⟩ = some (.int .i64 (f m 2)) := (Keeps.cell hk hb (by simp)).trans (hrow m (by omega) 2 (by omega))
      have d1 : wr.cell? ⟨b, o + (m + 1) * 3 + 1, none⟩ = some (.int .i64 (f (m + 1) 1)) := (Keeps.cell hk hb (by simp)).trans (hrow (m + 1) hlt 1 (by omega))
      have Hrow := Lib.hid hrow
      clear hrow
      go_wp2_with fail
      go_region_held3 (fun w' => w'.cell? ⟨b, o + m * 3, none⟩ = some (.int .i64 (f m 0)) ∧ w'.cell? ⟨b, o + m * 3 + 1, none⟩ = some (.int .i64 (f m 1)) ∧ w'.cell? ⟨b, o + m * 3 + 2, none⟩ = some (.int .i64 (f m 2)) ∧ w'.cell? ⟨b, o + (m + 1) * 3 + 1, none⟩ = some (.int .i64 (f (m + 1) 1))) (go_keep)
        (fail)
      have hk0 := Lib.hid hk
      clear hk
      have hrb : wr.heap.size ≠ b := by omega
      cases hs : spSmall (fun j => if j = 0 then f m 1 else if j = 1 then f m 2 else f (m + 1) 1) 3
      · go_wp2_with (first | (go_at_call 99; ((with_reducible refine (small_any _ 3 3 (fun j => if j = 0 then f m 1 else if j = 1 then f m 2 else f (m + 1) 1) _ ?_ (by omega)).mono ?_); (exact rows3 (t := 3) (by (repeat' (first | (refine Blk.newAt ?_; first | rfl | (simp; done)) | with_reducible (apply Blk.drew) | with_reducible (apply Blk.alloc)))))); rintro e w1 ⟨rfl, hk1⟩))
        all_goals
          go_roundw
          case rel =>
            refine ⟨m + 1, .inl (by omega), by go_num, ?_, hk0.out.trans (Keeps.trans ?_ hk1)⟩
            · intro j hj
              by_cases e : j = m
              · rw [e]; unfold spCross; rw [hs]; rfl
              · exact Hg.out j (by omega)
            · (repeat' with_reducible (first | exact Keeps.refl _ _ | assumption | apply Keeps.drew | apply Keeps.drewN | apply Keeps.alloc | refine Keeps.trans ?_ hk1 | refine Keeps.trans ?_ hk2 | refine Keeps.trans ?_ hk3))
          case measure => simp [intOf]; omega
      · have b0 := small_bd hs 0 (by omega)
        have b1 := small_bd hs 1 (by omega)
        simp at b0 b1
        obtain ⟨b01, b02⟩ := b0
        obtain ⟨b11, b12⟩ := b1
        have hws : IntKind.i64.wrap (f m 1 + f m 2) = f m 1 + f m 2 := wrap_i64m (by omega) (by omega)
        by_cases hx : f (m + 1) 1 < f m 1 + f m 2
        · go_wp2_with (first | (go_at_call 99; ((with_reducible refine (small_any _ 3 3 (fun j => if j = 0 then f m 1 else if j = 1 then f m 2 else f (m + 1) 1) _ ?_ (by omega)).mono ?_); (exact rows3 (t := 3) (by (repeat' (first | (refine Blk.newAt ?_; first | rfl | (simp; done)) | with_reducible (apply Blk.drew) | with_reducible (apply Blk.alloc)))))); rintro e w1 ⟨rfl, hk1⟩; have B1 : Blk w1 wr.heap.size #[.int .i64 (f m 0), .int .i64 (f m 1), .int .i64 (f m 2)] 65 := Blk.keep (l := []) (by (repeat' (first | (refine Blk.newAt ?_; first | rfl | (simp; done)) | with_reducible (apply Blk.drew) | with_reducible (apply Blk.alloc)))) hk1 (by simp); have C1 := B1.cell))
          go_ret
          refine ⟨ret_bool ?_, hk0.out.trans (Keeps.trans ?_ hk1)⟩
          · rw [← HG.out]
            exact (anyOf_true (i := m) (by omega) (by unfold spCross; rw [hs]; simpa using hx)).symm
          · (repeat' with_reducible (first | exact Keeps.refl _ _ | assumption | apply Keeps.drew | apply Keeps.drewN | apply Keeps.alloc | refine Keeps.trans ?_ hk1 | refine Keeps.trans ?_ hk2 | refine Keeps.trans ?_ hk3))
        · go_wp2_with (first | (go_at_call 99; ((with_reducible refine (small_any _ 3 3 (fun j => if j = 0 then f m 1 else if j = 1 then f m 2 else f (m + 1) 1) _ ?_ (by omega)).mono ?_); (exact rows3 (t := 3) (by (repeat' (first | (refine Blk.newAt ?_; first | rfl | (simp; done)) | with_reducible (apply Blk.drew) | with_reducible (apply Blk.alloc)))))); rintro e w1 ⟨rfl, hk1⟩; have B1 : Blk w1 wr.heap.size #[.int .i64 (f m 0), .int .i64 (f m 1), .int .i64 (f m 2)] 65 := Blk.keep (l := []) (by (repeat' (first | (refine Blk.newAt ?_; first | rfl | (simp; done)) | with_reducible (apply Blk.drew) | with_reducible (apply Blk.alloc)))) hk1 (by simp); have C1 := B1.cell))
          go_roundw
          case rel =>
            refine ⟨m + 1, .inl (by omega), by go_num, ?_, hk0.out.trans (Keeps.trans ?_ hk1)⟩
            · intro j hj
              by_cases e : j = m
              · rw [e]; unfold spCross; rw [hs]; simpa using hx
              · exact Hg.out j (by omega)
            · (repeat' with_reducible (first | exact Keeps.refl _ _ | assumption | apply Keeps.drew | apply Keeps.drewN | apply Keeps.alloc | refine Keeps.trans ?_ hk1 | refine Keeps.trans ?_ hk2 | refine Keeps.trans ?_ hk3))
          case measure => simp [intOf]; omega
    · go_wp2
      go_ret
      refine ⟨ret_bool ?_, hk⟩
      rw [← HG.out]
      exact (anyOf_false fun j hj => Hg.out j (by omega)).symm


set_option maxRecDepth 100000 in
theorem crossed_1 (c : CfgV) (w : World) (h : CfgAt w c) :
    Calls Try.prog 87 #[.agg c.cells, .int .i64 1] w (Says (.bool (spCrossed c.win1 c.w1n)) w) := by
  have hn := h.w1n
  have Hr := Lib.hid h.wins1
  clear h
  generalize hf : c.win1 = f at *
  generalize hG : spCrossed f c.w1n = G
  have HG := Lib.hid hG
  clear hG hf
  simp only [CfgV.cells]
  go_enter Try.func87, Try.ntmps87
  go_wp2_with fail
  generalize hna : c.w1n = n at *
  generalize c.w1a = a at *
  generalize c.w1c = cp at *
  clear hna
  go_loopw [6] (fun v wr => ∃ m : Nat, (m + 1 ≤ n ∨ m = 0) ∧ v = .int .i64 ((m : Int) + 1) ∧ (∀ j, j < m → spCross f j = false) ∧ Keeps [] w wr) (fun v _ => n + 1 - (intOf v).toNat)
  case atStart => exact ⟨0, .inr rfl, rfl, by intro j hj; omega, (Keeps.refl _ _).alloc _⟩
  case round =>
    obtain ⟨m, hi, rfl, hg0, hk⟩ := hrel
    have Hg := Lib.hid hg0
    clear hg0
    by_cases hlt : m + 1 < n
    · obtain ⟨b, o, rfl, hb, hrow⟩ := Hr.out.resolve_left (by omega)
      have hi0 : (0 : Int) ≤ (m : Int) := Int.natCast_nonneg _
      have hi1 : (m : Int) + 1 < (n : Int) := by omega
      have hi2 : (m : Int) < (n : Int) := by omega
      have hi3 : (0 : Int) ≤ (m : Int) + 1 := by omega
      have hw1 : IntKind.i64.wrap ((m : Int) + 1 - 1) = (m : Int) := by rw [Int.add_sub_cancel]; exact wrap_i64m (by omega) (by omega)
      have hw2 : IntKind.i64.wrap (m : Int) = (m : Int) := wrap_i64m (by omega) (by omega)
      have hnat : ((m : Int) + 1).toNat = m + 1 := by omega
      have hbr : b < wr.heap.size := Nat.lt_of_lt_of_le hb hk.size
      have c0 : wr.cell? ⟨b, o + m * 3, none⟩ = some (.int .i64 (f m 0)) := (Keeps.cell hk hb (by simp)).trans (by simpa [i64s] using hrow m (by omega) 0 (by omega))
      have c1 : wr.cell? ⟨b, o + m * 3 + 1, none⟩ = some (.int .i64 (f m 1)) := (Keeps.cell hk hb (by simp)).trans (hrow m (by omega) 1 (by omega))
      have c2 : wr.cell? ⟨b, o + m * 3 + 2, none⟩ = some (.int .i64 (f m 2)) := (Keeps.cell hk hb (by simp)).trans (hrow m (by omega) 2 (by omega))
      have d1 : wr.cell? ⟨b, o + (m + 1) * 3 + 1, none⟩ = some (.int .i64 (f (m + 1) 1)) := (Keeps.cell hk hb (by simp)).trans (hrow (m + 1) hlt 1 (by omega))
      have Hrow := Lib.hid hrow
      clear hrow
      go_wp2_with fail
      go_region_held3 (fun w' => w'.cell? ⟨b, o + m * 3, none⟩ = some (.int .i64 (f m 0)) ∧ w'.cell? ⟨b, o + m * 3 + 1, none⟩ = some (.int .i64 (f m 1)) ∧ w'.cell? ⟨b, o + m * 3 + 2, none⟩ = some (.int .i64 (f m 2)) ∧ w'.cell? ⟨b, o + (m + 1) * 3 + 1, none⟩ = some (.int .i64 (f (m + 1) 1))) (go_keep)
        (fail)
      have hk0 := Lib.hid hk
      clear hk
      have hrb : wr.heap.size ≠ b := by omega
      cases hs : spSmall (fun j => if j = 0 then f m 1 else if j = 1 then f m 2 else f (m + 1) 1) 3
      · go_wp2_with (first | (go_at_call 99; ((with_reducible refine (small_any _ 3 3 (fun j => if j = 0 then f m 1 else if j = 1 then f m 2 else f (m + 1) 1) _ ?_ (by omega)).mono ?_); (exact rows3 (t := 3) (by (repeat' (first | (refine Blk.newAt ?_; first | rfl | (simp; done)) | with_reducible (apply Blk.drew) | with_reducible (apply Blk.alloc)))))); rintro e w1 ⟨rfl, hk1⟩))
        all_goals
          go_roundw
          case rel =>
            refine ⟨m + 1, .inl (by omega), by go_num, ?_, hk0.out.trans (Keeps.trans ?_ hk1)⟩
            · intro j hj
              by_cases e : j = m
              · rw [e]; unfold spCross; rw [hs]; rfl
              · exact Hg.out j (by omega)
            · (repeat' with_reducible (first | exact Keeps.refl _ _ | assumption | apply Keeps.drew | apply Keeps.drewN | apply Keeps.alloc | refine Keeps.trans ?_ hk1 | refine Keeps.trans ?_ hk2 | refine Keeps.trans ?_ hk3))
          case measure => simp [intOf]; omega
      · have b0 := small_bd hs 0 (by omega)
        have b1 := small_bd hs 1 (by omega)
        simp at b0 b1
        obtain ⟨b01, b02⟩ := b0
        obtain ⟨b11, b12⟩ := b1
        have hws : IntKind.i64.wrap (f m 1 + f m 2) = f m 1 + f m 2 := wrap_i64m (by omega) (by omega)
        by_cases hx : f (m + 1) 1 < f m 1 + f m 2
        · go_wp2_with (first | (go_at_call 99; ((with_reducible refine (small_any _ 3 3 (fun j => if j = 0 then f m 1 else if j = 1 then f m 2 else f (m + 1) 1) _ ?_ (by omega)).mono ?_); (exact rows3 (t := 3) (by (repeat' (first | (refine Blk.newAt ?_; first | rfl | (simp; done)) | with_reducible (apply Blk.drew) | with_reducible (apply Blk.alloc)))))); rintro e w1 ⟨rfl, hk1⟩; have B1 : Blk w1 wr.heap.size #[.int .i64 (f m 0), .int .i64 (f m 1), .int .i64 (f m 2)] 65 := Blk.keep (l := []) (by (repeat' (first | (refine Blk.newAt ?_; first | rfl | (simp; done)) | with_reducible (apply Blk.drew) | with_reducible (apply Blk.alloc)))) hk1 (by simp); have C1 := B1.cell))
          go_ret
          refine ⟨ret_bool ?_, hk0.out.trans (Keeps.trans ?_ hk1)⟩
          · rw [← HG.out]
            exact (anyOf_true (i := m) (by omega) (by unfold spCross; rw [hs]; simpa using hx)).symm
          · (repeat' with_reducible (first | exact Keeps.refl _ _ | assumption | apply Keeps.drew | apply Keeps.drewN | apply Keeps.alloc | refine Keeps.trans ?_ hk1 | refine Keeps.trans ?_ hk2 | refine Keeps.trans ?_ hk3))
        · go_wp2_with (first | (go_at_call 99; ((with_reducible refine (small_any _ 3 3 (fun j => if j = 0 then f m 1 else if j = 1 then f m 2 else f (m + 1) 1) _ ?_ (by omega)).mono ?_); (exact rows3 (t := 3) (by (repeat' (first | (refine Blk.newAt ?_; first | rfl | (simp; done)) | with_reducible (apply Blk.drew) | with_reducible (apply Blk.alloc)))))); rintro e w1 ⟨rfl, hk1⟩; have B1 : Blk w1 wr.heap.size #[.int .i64 (f m 0), .int .i64 (f m 1), .int .i64 (f m 2)] 65 := Blk.keep (l := []) (by (repeat' (first | (refine Blk.newAt ?_; first | rfl | (simp; done)) | with_reducible (apply Blk.drew) | with_reducible (apply Blk.alloc)))) hk1 (by simp); have C1 := B1.cell))
          go_roundw
          case rel =>
            refine ⟨m + 1, .inl (by omega), by go_num, ?_, hk0.out.trans (Keeps.trans ?_ hk1)⟩
            · intro j hj
              by_cases e : j = m
              · rw [e]; unfold spCross; rw [hs]; simpa using hx
              · exact Hg.out j (by omega)
            · (repeat' with_reducible (first | exact Keeps.refl _ _ | assumption | apply Keeps.drew | apply Keeps.drewN | apply Keeps.alloc | refine Keeps.trans ?_ hk1 | refine Keeps.trans ?_ hk2 | refine Keeps.trans ?_ hk3))
          case measure => simp [intOf]; omega
    · go_wp2
      go_ret
      refine ⟨ret_bool ?_, hk⟩
      rw [← HG.out]
      exact (anyOf_false fun j hj => Hg.out j (by omega)).symm

end Go.Proofs.Ytpkjffiajidfcaa

/- idle of package defect. -/
namespace Go.Proofs.Ytpkjffiajidfcaa
open Go.RowKit


theorem idle1_any (pb : Nat) (p x0 x1 x2 : Int) (w : World) (hp : Blk w pb #[.int .i64 p] 3) :
    Calls Try.prog 100 #[.agg #[.int .i64 x0, .int .i64 x1, .int .i64 x2], .pointer (some ⟨pb, 0, none⟩)] w (Says (.bool (x0 == p)) w) := by
  have hpc : w.cell? ⟨pb, 0, none⟩ = some (.int .i64 p) := hp.cell 0
  have hpl := hp.lt
  go_enter Try.func100, Try.ntmps100
  go_wp2
  go_ret
  exact ⟨ret_bool rfl, by (repeat' with_reducible (first | exact Keeps.refl _ _ | assumption | apply Keeps.drew | apply Keeps.drewN | apply Keeps.alloc | refine Keeps.trans ?_ hk1 | refine Keeps.trans ?_ hk2 | refine Keeps.trans ?_ hk3))⟩

def spIdleAt (c : CfgV) (i : Nat) : Bool :=
  !inR (c.part i 0) 0 1 || !(if c.part i 0 = 0 then anyOf (fun j => c.win0 j 0 == (i : Int)) c.w0n else anyOf (fun j => c.win1 j 0 == (i : Int)) c.w1n)
def spIdle (c : CfgV) : Bool := anyOf (spIdleAt c) c.pn


set_option maxRecDepth 100000 in
set_option maxHeartbeats 2000000 in
theorem idle_any (c : CfgV) (w : World) (h : CfgAt w c) (hcf : Enters 100) :
    Calls Try.prog 88 #[.agg c.cells] w (Says (.bool (spIdle c)) w) := by
  have hpn := h.pn
  have hw0n := h.w0n
  have hw1n := h.w1n
  have Hr := Lib.hid h.parts
  have Hw0 := Lib.hid h.wins0
  have Hw1 := Lib.hid h.wins1
  have Hcf := Lib.hid hcf
  clear h hcf
  have hmf : ∀ (fn : Fn) (first cap : Array Value) (w : World), (Instr.makeFunc fn first cap).run Try.prog w = .ok (.func fn first cap) w := fun _ _ _ _ => rfl
  simp only [CfgV.cells]
  go_enter Try.func88, Try.ntmps88
  go_wp2_with fail
  go_loopw [9] (fun v wr => ∃ i : Nat, i ≤ c.pn ∧ v = .int .i64 i ∧ (∀ j, j < i → spIdleAt c j = false) ∧ Keeps [] (w.alloc (.cells c.cells 31)) wr) (fun v _ => c.pn - (intOf v).toNat)
  case atStart => exact ⟨0, Nat.zero_le _, rfl, by intro j hj; omega, Keeps.refl _ _⟩
  case round =>
    obtain ⟨i, hi, rfl, hg0, hk⟩ := hrel
    have Hg := Lib.hid hg0
    clear hg0
    have hbx : Blk wr w.heap.size c.cells 31 := (Blk.new _ _ _).keep hk (by simp)
    have hbl := hbx.lt
    have hbc := hbx.cell
    by_cases hlt : i < c.pn
    · obtain ⟨b, o, hpa, hb, hrow⟩ := Hr.out.resolve_left (by omega)
      have hi0 : (0 : Int) ≤ (i : Int) := Int.natCast_nonneg _
      have hi1 : (i : Int) < (c.pn : Int) := by omega
      have hbr : b < wr.heap.size := by have := hk.size; simp at this; omega
      have hkw : Keeps [] w wr := Keeps.trans (by (repeat' with_reducible (first | exact Keeps.refl _ _ | assumption | apply Keeps.drew | apply Keeps.drewN | apply Keeps.alloc | refine Keeps.trans ?_ hk1 | refine Keeps.trans ?_ hk2 | refine Keeps.trans ?_ hk3))) hk
      have c0 : wr.cell? ⟨b, o + i * 2, none⟩ = some (.int .i64 (c.part i 0)) := (Keeps.cell hkw hb (by simp)).trans (by simpa [i64s] using hrow i hlt 0 (by omega))
      have c1 : wr.cell? ⟨b, o + i * 2 + 1, none⟩ = some (.int .i64 (c.part i 1)) := (Keeps.cell hkw hb (by simp)).trans (hrow i hlt 1 (by omega))
      have Hrow := Lib.hid hrow
      have Hkw := Lib.hid hkw
      clear hrow hkw
      cases hin : inR (c.part i 0) 0 1
      · have Hin := Lib.hid hin
        go_wp2_with (first | (go_at_call 65; refine (within_any _ _ _ _).mono ?_; rintro e w1 ⟨rfl, hk1⟩))
        go_ret
        refine ⟨ret_bool ?_, Keeps.trans (Keeps.trans ?_ hk) (Keeps.trans ?_ hk1)⟩
        · exact (anyOf_true hlt (by unfold spIdleAt; rw [Hin.out]; rfl)).symm
        · (repeat' with_reducible (first | exact Keeps.refl _ _ | assumption | apply Keeps.drew | apply Keeps.drewN | apply Keeps.alloc | refine Keeps.trans ?_ hk1 | refine Keeps.trans ?_ hk2 | refine Keeps.trans ?_ hk3))
        · (repeat' with_reducible (first | exact Keeps.refl _ _ | assumption | apply Keeps.drew | apply Keeps.drewN | apply Keeps.alloc | refine Keeps.trans ?_ hk1 | refine Keeps.trans ?_ hk2 | refine Keeps.trans ?_ hk3))
      · have hcore : c.part i 0 = 0 ∨ c.part i 0 = 1 := by
          have h2 := hin
          unfold inR at h2
          simp at h2
          omega
        rcases hcore with he | he
        · have He := Lib.hid he
          rw [he] at c0
          have hin0 : inR 0 0 1 = true := by decide
          rw [he] at hin
          have Hin : Hid (inR (c.part i 0) 0 1 = true) := by rw [He.out]; exact hin
          have WB1 : ∀ w1, Blk w1 (wr.heap.size + 1) #[.int .i64 (c.part i 0), .int .i64 (c.part i 1)] 63 ↔ Blk w1 (wr.heap.size + 1) #[.int .i64 0, .int .i64 (c.part i 1)] 63 := fun w1 => by rw [He.out]
          have WB1' := Lib.hid WB1
          clear WB1 he
          cases hw : anyOf (fun j => c.win0 j 0 == (i : Int)) c.w0n
          · have Hw := Lib.hid hw
            go_wp2_with (first | (go_at_call 65; refine (within_any _ _ _ _).mono ?_; rintro e w1 ⟨rfl, hk1⟩; have B1 : Blk w1 (wr.heap.size + 1) #[.int .i64 0, .int .i64 (c.part i 1)] 63 := Blk.keep (l := []) (by (repeat' (first | (refine Blk.newAt ?_; first | rfl | (simp; done)) | with_reducible (apply Blk.drew) | with_reducible (apply Blk.alloc)))) hk1 (by simp); have C1 := B1.cell; have B2 : Blk w1 w.heap.size c.cells 31 := Blk.keep (l := []) ((hbx.alloc _).alloc _) hk1 (by simp); have C2 := B2.cell) | (go_at_call 96; ((with_reducible refine (ContainsFunc_Window 100 #[.pointer (some ⟨wr.heap.size, 0, none⟩)] c.w0a c.w0n c.w0c (i64s c.win0) (fun j => c.win0 j 0 == (i : Int)) _ ?_ hw0n Hcf.out ?_).mono ?_); (exact Rows.keep (l := []) Hw0.out (Keeps.trans (Keeps.trans (by (repeat' with_reducible (first | exact Keeps.refl _ _ | assumption | apply Keeps.drew | apply Keeps.drewN | apply Keeps.alloc | refine Keeps.trans ?_ hk1 | refine Keeps.trans ?_ hk2 | refine Keeps.trans ?_ hk3))) hk) (by (repeat' with_reducible (first | exact Keeps.refl _ _ | assumption | apply Keeps.drew | apply Keeps.drewN | apply Keeps.alloc | refine Keeps.trans ?_ hk1 | refine Keeps.trans ?_ hk2 | refine Keeps.trans ?_ hk3)))) (by simp)); (intro j _ W hW; exact idle1_any wr.heap.size _ _ _ _ W (Blk.keep (l := []) (Blk.keep (l := []) (by (repeat' (first | (refine Blk.newAt ?_; first | rfl | (simp; done)) | with_reducible (apply Blk.drew) | with_reducible (apply Blk.alloc)))) hk1 (by simp)) hW (by simp)))); rintro e w2 ⟨rfl, hk2⟩))
            go_ret
            refine ⟨ret_bool ?_, Keeps.trans (Keeps.trans ?_ hk) (Keeps.trans ?_ (Keeps.trans hk1 hk2))⟩
            · exact (anyOf_true hlt (by unfold spIdleAt; rw [Hin.out]; simp [He.out, Hw.out])).symm
            · (repeat' with_reducible (first | exact Keeps.refl _ _ | assumption | apply Keeps.drew | apply Keeps.drewN | apply Keeps.alloc | refine Keeps.trans ?_ hk1 | refine Keeps.trans ?_ hk2 | refine Keeps.trans ?_ hk3))
            · (repeat' with_reducible (first | exact Keeps.refl _ _ | assumption | apply Keeps.drew | apply Keeps.drewN | apply Keeps.alloc | refine Keeps.trans ?_ hk1 | refine Keeps.trans ?_ hk2 | refine Keeps.trans ?_ hk3))
          · have Hw := Lib.hid hw
            go_wp2_with (first | (go_at_call 65; refine (within_any _ _ _ _).mono ?_; rintro e w1 ⟨rfl, hk1⟩; have B1 : Blk w1 (wr.heap.size + 1) #[.int .i64 0, .int .i64 (c.part i 1)] 63 := Blk.keep (l := []) (by (repeat' (first | (refine Blk.newAt ?_; first | rfl | (simp; done)) | with_reducible (apply Blk.drew) | with_reducible (apply Blk.alloc)))) hk1 (by simp); have C1 := B1.cell; have B2 : Blk w1 w.heap.size c.cells 31 := Blk.keep (l := []) ((hbx.alloc _).alloc _) hk1 (by simp); have C2 := B2.cell) | (go_at_call 96; ((with_reducible refine (ContainsFunc_Window 100 #[.pointer (some ⟨wr.heap.size, 0, none⟩)] c.w0a c.w0n c.w0c (i64s c.win0) (fun j => c.win0 j 0 == (i : Int)) _ ?_ hw0n Hcf.out ?_).mono ?_); (exact Rows.keep (l := []) Hw0.out (Keeps.trans (Keeps.trans (by (repeat' with_reducible (first | exact Keeps.refl _ _ | assumption | apply Keeps.drew | apply Keeps.drewN | apply Keeps.alloc | refine Keeps.trans ?_ hk1 | refine Keeps.trans ?_ hk2 | refine Keeps.trans ?_ hk3))) hk) (by (repeat' with_reducible (first | exact Keeps.refl _ _ | assumption | apply Keeps.drew | apply Keeps.drewN | apply Keeps.alloc | refine Keeps.trans ?_ hk1 | refine Keeps.trans ?_ hk2 | refine Keeps.trans ?_ hk3)))) (by simp)); (intro j _ W hW; exact idle1_any wr.heap.size _ _ _ _ W (Blk.keep (l := []) (Blk.keep (l := []) (by (repeat' (first | (refine Blk.newAt ?_; first | rfl | (simp; done)) | with_reducible (apply Blk.drew) | with_reducible (apply Blk.alloc)))) hk1 (by simp)) hW (by simp)))); rintro e w2 ⟨rfl, hk2⟩))
            rw [← hpa]
            go_roundw
            case rel =>
              refine ⟨i + 1, by omega, by go_num, ?_, Keeps.trans hk (Keeps.trans ?_ (Keeps.trans hk1 hk2))⟩
              · intro j hj
                by_cases ej : j = i
                · rw [ej]; unfold spIdleAt; rw [Hin.out]; simp [He.out, Hw.out]
                · exact Hg.out j (by omega)
              · (repeat' with_reducible (first | exact Keeps.refl _ _ | assumption | apply Keeps.drew | apply Keeps.drewN | apply Keeps.alloc | refine Keeps.trans ?_ hk1 | refine Keeps.trans ?_ hk2 | refine Keeps.trans ?_ hk3))
            case measure => simp [intOf]; omega
        · have He := Lib.hid he
          rw [he] at c0
          have hin0 : inR 1 0 1 = true := by decide
          rw [he] at hin
          have Hin : Hid (inR (c.part i 0) 0 1 = true) := by rw [He.out]; exact hin
          have WB1 : ∀ w1, Blk w1 (wr.heap.size + 1) #[.int .i64 (c.part i 0), .int .i64 (c.part i 1)] 63 ↔ Blk w1 (wr.heap.size + 1) #[.int .i64 1, .int .i64 (c.part i 1)] 63 := fun w1 => by rw [He.out]
          have WB1' := Lib.hid WB1
          clear WB1 he
          cases hw : anyOf (fun j => c.win1 j 0 == (i : Int)) c.w1n
          · have Hw := Lib.hid hw
            go_wp2_with (first | (go_at_call 65; refine (within_any _ _ _ _).mono ?_; rintro e w1 ⟨rfl, hk1⟩; have B1 : Blk w1 (wr.heap.size + 1) #[.int .i64 1, .int .i64 (c.part i 1)] 63 := Blk.keep (l := []) (by (repeat' (first | (refine Blk.newAt ?_; first | rfl | (simp; done)) | with_reducible (apply Blk.drew) | with_reducible (apply Blk.alloc)))) hk1 (by simp); have C1 := B1.cell; have B2 : Blk w1 w.heap.size c.cells 31 := Blk.keep (l := []) ((hbx.alloc _).alloc _) hk1 (by simp); have C2 := B2.cell) | (go_at_call 96; ((with_reducible refine (ContainsFunc_Window 100 #[.pointer (some ⟨wr.heap.size, 0, none⟩)] c.w1a c.w1n c.w1c (i64s c.win1) (fun j => c.win1 j 0 == (i : Int)) _ ?_ hw1n Hcf.out ?_).mono ?_); (exact Rows.keep (l := []) Hw1.out (Keeps.trans (Keeps.trans (by (repeat' with_reducible (first | exact Keeps.refl _ _ | assumption | apply Keeps.drew | apply Keeps.drewN | apply Keeps.alloc | refine Keeps.trans ?_ hk1 | refine Keeps.trans ?_ hk2 | refine Keeps.trans ?_ hk3))) hk) (by (repeat' with_reducible (first | exact Keeps.refl _ _ | assumption | apply Keeps.drew | apply Keeps.drewN | apply Keeps.alloc | refine Keeps.trans ?_ hk1 | refine Keeps.trans ?_ hk2 | refine Keeps.trans ?_ hk3)))) (by simp)); (intro j _ W hW; exact idle1_any wr.heap.size _ _ _ _ W (Blk.keep (l := []) (Blk.keep (l := []) (by (repeat' (first | (refine Blk.newAt ?_; first | rfl | (simp; done)) | with_reducible (apply Blk.drew) | with_reducible (apply Blk.alloc)))) hk1 (by simp)) hW (by simp)))); rintro e w2 ⟨rfl, hk2⟩))
            go_ret
            refine ⟨ret_bool ?_, Keeps.trans (Keeps.trans ?_ hk) (Keeps.trans ?_ (Keeps.trans hk1 hk2))⟩
            · exact (anyOf_true hlt (by unfold spIdleAt; rw [Hin.out]; simp [He.out, Hw.out])).symm
            · (repeat' with_reducible (first | exact Keeps.refl _ _ | assumption | apply Keeps.drew | apply Keeps.drewN | apply Keeps.alloc | refine Keeps.trans ?_ hk1 | refine Keeps.trans ?_ hk2 | refine Keeps.trans ?_ hk3))
            · (repeat' with_reducible (first | exact Keeps.refl _ _ | assumption | apply Keeps.drew | apply Keeps.drewN | apply Keeps.alloc | refine Keeps.trans ?_ hk1 | refine Keeps.trans ?_ hk2 | refine Keeps.trans ?_ hk3))
          · have Hw := Lib.hid hw
            go_wp2_with (first | (go_at_call 65; refine (within_any _ _ _ _).mono ?_; rintro e w1 ⟨rfl, hk1⟩; have B1 : Blk w1 (wr.heap.size + 1) #[.int .i64 1, .int .i64 (c.part i 1)] 63 := Blk.keep (l := []) (by (repeat' (first | (refine Blk.newAt ?_; first | rfl | (simp; done)) | with_reducible (apply Blk.drew) | with_reducible (apply Blk.alloc)))) hk1 (by simp); have C1 := B1.cell; have B2 : Blk w1 w.heap.size c.cells 31 := Blk.keep (l := []) ((hbx.alloc _).alloc _) hk1 (by simp); have C2 := B2.cell) | (go_at_call 96; ((with_reducible refine (ContainsFunc_Window 100 #[.pointer (some ⟨wr.heap.size, 0, none⟩)] c.w1a c.w1n c.w1c (i64s c.win1) (fun j => c.win1 j 0 == (i : Int)) _ ?_ hw1n Hcf.out ?_).mono ?_); (exact Rows.keep (l := []) Hw1.out (Keeps.trans (Keeps.trans (by (repeat' with_reducible (first | exact Keeps.refl _ _ | assumption | apply Keeps.drew | apply Keeps.drewN | apply Keeps.alloc | refine Keeps.trans ?_ hk1 | refine Keeps.trans ?_ hk2 | refine Keeps.trans ?_ hk3))) hk) (by (repeat' with_reducible (first | exact Keeps.refl _ _ | assumption | apply Keeps.drew | apply Keeps.drewN | apply Keeps.alloc | refine Keeps.trans ?_ hk1 | refine Keeps.trans ?_ hk2 | refine Keeps.trans ?_ hk3)))) (by simp)); (intro j _ W hW; exact idle1_any wr.heap.size _ _ _ _ W (Blk.keep (l := []) (Blk.keep (l := []) (by (repeat' (first | (refine Blk.newAt ?_; first | rfl | (simp; done)) | with_reducible (apply Blk.drew) | with_reducible (apply Blk.alloc)))) hk1 (by simp)) hW (by simp)))); rintro e w2 ⟨rfl, hk2⟩))
            rw [← hpa]
            go_roundw
            case rel =>
              refine ⟨i + 1, by omega, by go_num, ?_, Keeps.trans hk (Keeps.trans ?_ (Keeps.trans hk1 hk2))⟩
              · intro j hj
                by_cases ej : j = i
                · rw [ej]; unfold spIdleAt; rw [Hin.out]; simp [He.out, Hw.out]
                · exact Hg.out j (by omega)
              · (repeat' with_reducible (first | exact Keeps.refl _ _ | assumption | apply Keeps.drew | apply Keeps.drewN | apply Keeps.alloc | refine Keeps.trans ?_ hk1 | refine Keeps.trans ?_ hk2 | refine Keeps.trans ?_ hk3))
            case measure => simp [intOf]; omega
    · go_wp2
      go_ret
      refine ⟨ret_bool ?_, Keeps.trans ?_ hk⟩
      · exact (anyOf_false fun j hj => Hg.out j (by omega)).symm
      · (repeat' with_reducible (first | exact Keeps.refl _ _ | assumption | apply Keeps.drew | apply Keeps.drewN | apply Keeps.alloc | refine Keeps.trans ?_ hk1 | refine Keeps.trans ?_ hk2 | refine Keeps.trans ?_ hk3))

end Go.Proofs.Ytpkjffiajidfcaa

/- Worlds that keep all cells. -/
namespace Go.Proofs.Ytpkjffiajidfcaa
open Go.RowKit

/-- All cells that were are as they were. -/
structure KC (w w' : World) : Prop where
  size : w.heap.size ≤ w'.heap.size
  cells : ∀ (b : Nat) (c : Array Value) (t : TypeId) (fr : Nat × Nat), w.heap[b]? = some (.cells c t fr) → w'.heap[b]? = some (.cells c t fr)

theorem Keeps.kc {w w' : World} (h : Keeps [] w w') : KC w w' := ⟨h.size, fun b _ _ _ hb => (h.block b (lt_of_block hb) (by simp)).trans hb⟩
theorem KC.refl (w : World) : KC w w := ⟨Nat.le_refl _, fun _ _ _ _ h => h⟩
theorem KC.trans {a b c : World} (h : KC a b) (k : KC b c) : KC a c := ⟨Nat.le_trans h.size k.size, fun x y z f hx => k.cells x y z f (h.cells x y z f hx)⟩
theorem Blk.kc {w w' : World} {b : Nat} {vs : Array Value} {t : TypeId} (h : Blk w b vs t) (k : KC w w') : Blk w' b vs t := k.cells b vs t (0, 0) h

theorem KC.cell {w w' : World} (h : KC w w') {b o : Nat} {v : Value} (hc : w.cell? ⟨b, o, none⟩ = some v) : w'.cell? ⟨b, o, none⟩ = some v := by
  unfold World.cell? at hc ⊢
  split at hc
  · rename_i c t fr heq
    rw [h.cells b c t fr heq]
    exact hc
  · cases hc

theorem Rows.kc {w w' : World} {a : Option Addr} {n k : Nat} {f : Nat → Nat → Value} (h : Rows w a n k f) (hk : KC w w') : Rows w' a n k f := by
  rcases h with h | ⟨b, o, rfl, hb, h⟩
  · exact .inl h
  · exact .inr ⟨b, o, rfl, Nat.lt_of_lt_of_le hb hk.size, fun i hi j hj => hk.cell (h i hi j hj)⟩

theorem CfgAt.kc {w w' : World} {c : CfgV} (h : CfgAt w c) (hk : KC w w') : CfgAt w' c :=
  ⟨h.parts.kc hk, h.chans.kc hk, h.wins0.kc hk, h.wins1.kc hk, h.pn, h.cn, h.w0n, h.w1n, h.l0, h.l1, h.part, h.chan, h.boot, h.win0, h.win1⟩

end Go.Proofs.Ytpkjffiajidfcaa

/- The list of rules of package defect. -/
namespace Go.Proofs.Ytpkjffiajidfcaa
open Go.RowKit

/-- A rule's function, whatever it has captured, answers r at the configuration c, in every world that keeps what w has. -/
def RuleOk (w : World) (c : CfgV) (k : Nat) (cap : Array Value) (r : Bool) : Prop :=
  Enters k ∧ ∀ W, KC w W → Calls Try.prog k (#[.agg c.cells] ++ cap) W (Says (.bool r) W)

theorem RuleOk.keep {w w' : World} {c : CfgV} {k : Nat} {cap : Array Value} {r : Bool} (h : RuleOk w c k cap r) (hk : KC w w') : RuleOk w' c k cap r :=
  ⟨h.1, fun W hW => h.2 W (hk.trans hW)⟩

/-- What the makers of rules leave: a closure with one captured variable, which lies in the next block. -/
def Makes (k : Nat) (bad : Value) (t : TypeId) (w : World) (e : Ending) (w' : World) : Prop :=
  e = .returned (.agg #[.func (.func k) #[] #[.pointer (some ⟨w.heap.size, 0, none⟩)]]) ∧ Keeps [] w w' ∧ Blk w' w.heap.size #[bad] t

theorem ent_part_1 : Enters 89 := fun _ _ => by kernel_rfl
theorem ent_channel_1 : Enters 91 := fun _ _ => by kernel_rfl
theorem ent_channel_1_1 : Enters 93 := fun _ _ => by kernel_rfl
theorem ent_frame_1 : Enters 94 := fun _ _ => by kernel_rfl
theorem ent_window_1 : Enters 95 := fun _ _ => by kernel_rfl
theorem ent_window_1_1 : Enters 97 := fun _ _ => by kernel_rfl
theorem ent_idle_1 : Enters 100 := fun _ _ => by kernel_rfl
theorem ent_rules_1 : Enters 64 := fun _ _ => by kernel_rfl
theorem ent_rules_2 : Enters 67 := fun _ _ => by kernel_rfl
theorem ent_rules_3 : Enters 68 := fun _ _ => by kernel_rfl
theorem ent_rules_4 : Enters 69 := fun _ _ => by kernel_rfl
theorem ent_rules_5 : Enters 71 := fun _ _ => by kernel_rfl
theorem ent_rules_6 : Enters 72 := fun _ _ => by kernel_rfl
theorem ent_rules_7 : Enters 74 := fun _ _ => by kernel_rfl
theorem ent_rules_8 : Enters 75 := fun _ _ => by kernel_rfl
theorem ent_rules_9 : Enters 76 := fun _ _ => by kernel_rfl
theorem ent_rules_10 : Enters 78 := fun _ _ => by kernel_rfl
theorem ent_rules_11 : Enters 80 := fun _ _ => by kernel_rfl
theorem ent_rules_12 : Enters 82 := fun _ _ => by kernel_rfl
theorem ent_rules_13 : Enters 83 := fun _ _ => by kernel_rfl
theorem ent_foreign : Enters 85 := fun _ _ => by kernel_rfl
theorem ent_outside : Enters 86 := fun _ _ => by kernel_rfl
theorem ent_crossed : Enters 87 := fun _ _ => by kernel_rfl
theorem ent_idle : Enters 88 := fun _ _ => by kernel_rfl

theorem part_makes (k : Nat) (cap : Array Value) (w : World) :
    Calls Try.prog 66 #[.func (.func k) #[] cap] w (Makes 89 (.func (.func k) #[] cap) 115 w) := by
  have hmf : ∀ (fn : Fn) (first cap : Array Value) (w : World), (Instr.makeFunc fn first cap).run Try.prog w = .ok (.func fn first cap) w := fun _ _ _ _ => rfl
  go_enter Try.func66, Try.ntmps66
  go_wp2
  refine bodyPost_ret (v := .agg #[.func (.func 89) #[] #[.pointer (some ⟨w.heap.size, 0, none⟩)]]) ?_ rfl ⟨rfl, by (repeat' with_reducible (first | exact Keeps.refl _ _ | assumption | apply Keeps.drew | apply Keeps.drewN | apply Keeps.alloc | refine Keeps.trans ?_ hk1 | refine Keeps.trans ?_ hk2 | refine Keeps.trans ?_ hk3)), ?_⟩
  · simp [results, Try.results66, go_sem]
  · (repeat' (first | (refine Blk.newAt ?_; first | rfl | (simp; done)) | with_reducible (apply Blk.drew) | with_reducible (apply Blk.alloc)))


theorem channel_makes (k : Nat) (cap : Array Value) (w : World) :
    Calls Try.prog 70 #[.func (.func k) #[] cap] w (Makes 91 (.func (.func k) #[] cap) 117 w) := by
  have hmf : ∀ (fn : Fn) (first cap : Array Value) (w : World), (Instr.makeFunc fn first cap).run Try.prog w = .ok (.func fn first cap) w := fun _ _ _ _ => rfl
  go_enter Try.func70, Try.ntmps70
  go_wp2
  refine bodyPost_ret (v := .agg #[.func (.func 91) #[] #[.pointer (some ⟨w.heap.size, 0, none⟩)]]) ?_ rfl ⟨rfl, by (repeat' with_reducible (first | exact Keeps.refl _ _ | assumption | apply Keeps.drew | apply Keeps.drewN | apply Keeps.alloc | refine Keeps.trans ?_ hk1 | refine Keeps.trans ?_ hk2 | refine Keeps.trans ?_ hk3)), ?_⟩
  · simp [results, Try.results70, go_sem]
  · (repeat' (first | (refine Blk.newAt ?_; first | rfl | (simp; done)) | with_reducible (apply Blk.drew) | with_reducible (apply Blk.alloc)))


theorem frame_makes (k : Nat) (cap : Array Value) (w : World) :
    Calls Try.prog 81 #[.func (.func k) #[] cap] w (Makes 94 (.func (.func k) #[] cap) 88 w) := by
  have hmf : ∀ (fn : Fn) (first cap : Array Value) (w : World), (Instr.makeFunc fn first cap).run Try.prog w = .ok (.func fn first cap) w := fun _ _ _ _ => rfl
  go_enter Try.func81, Try.ntmps81
  go_wp2
  refine bodyPost_ret (v := .agg #[.func (.func 94) #[] #[.pointer (some ⟨w.heap.size, 0, none⟩)]]) ?_ rfl ⟨rfl, by (repeat' with_reducible (first | exact Keeps.refl _ _ | assumption | apply Keeps.drew | apply Keeps.drewN | apply Keeps.alloc | refine Keeps.trans ?_ hk1 | refine Keeps.trans ?_ hk2 | refine Keeps.trans ?_ hk3)), ?_⟩
  · simp [results, Try.results81, go_sem]
  · (repeat' (first | (refine Blk.newAt ?_; first | rfl | (simp; done)) | with_reducible (apply Blk.drew) | with_reducible (apply Blk.alloc)))


/-- What the maker of a window's rule leaves: two captured variables. -/
def MakesW (bad : Value) (w : World) (e : Ending) (w' : World) : Prop :=
  ∃ pb, e = .returned (.agg #[.func (.func 94) #[] #[.pointer (some ⟨pb, 0, none⟩)]]) ∧ Keeps [] w w' ∧ Blk w' w.heap.size #[bad] 121 ∧ Blk w' pb #[.func (.func 95) #[] #[.pointer (some ⟨w.heap.size, 0, none⟩)]] 88

theorem window_makes (k : Nat) (w : World) :
    Calls Try.prog 84 #[.func (.func k) #[] #[]] w (MakesW (.func (.func k) #[] #[]) w) := by
  have hmf : ∀ (fn : Fn) (first cap : Array Value) (w : World), (Instr.makeFunc fn first cap).run Try.prog w = .ok (.func fn first cap) w := fun _ _ _ _ => rfl
  go_enter Try.func84, Try.ntmps84
  go_wp2_with fail
  have hbx : Blk ((w.alloc (.cells #[.func (.func k) #[] #[]] 121)).alloc (.cells #[.nilFunc] 112)) w.heap.size #[.func (.func k) #[] #[]] 121 := (Blk.new _ _ _).alloc _
  have hkx : Keeps [] w ((w.alloc (.cells #[.func (.func k) #[] #[]] 121)).alloc (.cells #[.nilFunc] 112)) := ((Keeps.refl _ _).alloc _).alloc _
  refine (frame_makes 95 #[.pointer (some ⟨w.heap.size, 0, none⟩)] _).mono ?_
  rintro e w1 ⟨rfl, hk1, hr1⟩
  have hr2 : Blk w1 (w.heap.size + 1) #[.nilFunc] 112 := Blk.keep (l := []) (Blk.newAt (by simp)) hk1 (by simp)
  have hb1 : Blk w1 w.heap.size #[.func (.func k) #[] #[]] 121 := hbx.keep hk1 (by simp)
  simp only [World.size_alloc] at hr1 ⊢
  have hc2 : w1.cell? ⟨w.heap.size + 1, 0, none⟩ = some .nilFunc := hr2.cell 0
  have hf2 : w1.frozen? ⟨w.heap.size + 1, 0, none⟩ = false := hr2.frozen 0
  have hl2 := hr2.lt
  go_wp2
  have hk2 : Keeps [] w (w1.setCell ⟨w.heap.size + 1, 0, none⟩ (.func (.func 94) #[] #[.pointer (some ⟨w.heap.size + 1 + 1, 0, none⟩)])) := Keeps.setCell (hkx.trans hk1) (by intro hh; exact absurd hh (by simp)) _
  refine bodyPost_ret (v := .agg #[.func (.func 94) #[] #[.pointer (some ⟨w.heap.size + 1 + 1, 0, none⟩)]]) ?_ rfl ⟨_, rfl, hk2, ?_, ?_⟩
  · have hc3 : (w1.setCell ⟨w.heap.size + 1, 0, none⟩ (.func (.func 94) #[] #[.pointer (some ⟨w.heap.size + 1 + 1, 0, none⟩)])).cell? ⟨w.heap.size + 1, 0, none⟩ = some (.func (.func 94) #[] #[.pointer (some ⟨w.heap.size + 1 + 1, 0, none⟩)]) := (hr2.set 0 _).cell 0
    simp [results, Try.results84, go_sem, hc3]
  · exact hb1.other (by simp) _
  · exact hr1.other (by simp) _

end Go.Proofs.Ytpkjffiajidfcaa

/- rules() of package defect: seventeen functions, and what each answers. -/
namespace Go.Proofs.Ytpkjffiajidfcaa
open Go.RowKit

def spForeign (c : CfgV) (core : Int) (x0 _x1 _x2 : Int) : Bool := !inR x0 0 (c.pn - 1) || c.part x0.toNat 0 != core

/-- What rule number i (from 0 on) says of a configuration. -/
def spRule (c : CfgV) : Nat → Bool
  | 0 => !inR c.pn 1 6
  | 1 => anyOf (fun i => !inR (c.part i 0) 0 1) c.pn
  | 2 => anyOf (fun i => !inR (c.part i 1) 0 64) c.pn
  | 3 => decide (8 < (c.cn : Int))
  | 4 => anyOf (fun i => c.chan i 0 != 1 && c.chan i 0 != 2) c.cn
  | 5 => anyOf (fun i => !inR (c.chan i 1) 0 (c.pn - 1) || !inR (c.chan i 2) 0 (c.pn - 1)) c.cn
  | 6 => anyOf (fun i => c.chan i 1 == c.chan i 2) c.cn
  | 7 => anyOf (fun i => !inR (c.chan i 3) 1 16) c.cn
  | 8 => anyOf (fun i => !spDeep (c.chan i 0) (c.chan i 4)) c.cn
  | 9 => anyOf (fun i => !spFresh (c.chan i 0) (c.chan i 5)) c.cn
  | 10 => anyOf (fun i => c.chan i 0 == 1 && c.chan i 6 != 0) c.cn
  | 11 => !inR c.l0 1 64 || !inR c.l1 1 64
  | 12 => decide (16 < (c.w0n : Int)) || decide (16 < (c.w1n : Int))
  | 13 => anyOf (fun i => spForeign c 0 (c.win0 i 0) (c.win0 i 1) (c.win0 i 2)) c.w0n || anyOf (fun i => spForeign c 1 (c.win1 i 0) (c.win1 i 1) (c.win1 i 2)) c.w1n
  | 14 => anyOf (fun i => spOutside (c.win0 i 1) (c.win0 i 2) c.l0) c.w0n || anyOf (fun i => spOutside (c.win1 i 1) (c.win1 i 2) c.l1) c.w1n
  | 15 => spCrossed c.win0 c.w0n || spCrossed c.win1 c.w1n
  | _ => spIdle c

def RulesPost (c : CfgV) (w : World) (e : Ending) (w' : World) : Prop :=
  ∃ rb vs, e = .returned (.slice (some ⟨rb, 0, none⟩) 17 17) ∧ Keeps [] w w' ∧ Blk w' rb vs 112 ∧
    ∀ i, i < 17 → ∃ k cap, vs[i]? = some (.func (.func k) #[] cap) ∧ RuleOk w' c k cap (spRule c i)


theorem ok_0 (c : CfgV) (w : World) (h : CfgAt w c) : RuleOk w c 64 #[] (spRule c 0) :=
  ⟨ent_rules_1, fun W hW => by
    have h := h.kc hW
    exact r1_any c W⟩

theorem ok_3 (c : CfgV) (w : World) (h : CfgAt w c) : RuleOk w c 69 #[] (spRule c 3) :=
  ⟨ent_rules_4, fun W hW => by
    have h := h.kc hW
    exact r4_any c W⟩

theorem ok_16 (c : CfgV) (w : World) (h : CfgAt w c) : RuleOk w c 88 #[] (spRule c 16) :=
  ⟨ent_idle, fun W hW => by
    have h := h.kc hW
    exact idle_any c W h ent_idle_1⟩

theorem ok_1 (c : CfgV) (w : World) (h : CfgAt w c) (pb : Nat) (hb : Blk w pb #[.func (.func 67) #[] #[]] 115) : RuleOk w c 89 #[.pointer (some ⟨pb, 0, none⟩)] (spRule c 1) :=
  ⟨ent_part_1, fun W hW => part1_any _ pb (fun x0 _ => !inR x0 0 1) c W ent_rules_2 (fun x0 x1 W => r2_any x0 x1 W) (hb.kc hW) (h.kc hW)⟩

theorem ok_2 (c : CfgV) (w : World) (h : CfgAt w c) (pb : Nat) (hb : Blk w pb #[.func (.func 68) #[] #[]] 115) : RuleOk w c 89 #[.pointer (some ⟨pb, 0, none⟩)] (spRule c 2) :=
  ⟨ent_part_1, fun W hW => part1_any _ pb (fun _ x1 => !inR x1 0 64) c W ent_rules_3 (fun x0 x1 W => r3_any x0 x1 W) (hb.kc hW) (h.kc hW)⟩

theorem ok_4 (c : CfgV) (w : World) (h : CfgAt w c) (pb : Nat) (hb : Blk w pb #[.func (.func 71) #[] #[]] 117) : RuleOk w c 91 #[.pointer (some ⟨pb, 0, none⟩)] (spRule c 4) :=
  ⟨ent_channel_1, fun W hW => channel1_any _ pb (fun c x0 x1 x2 x3 x4 x5 x6 => x0 != 1 && x0 != 2) c W ent_rules_5 (fun x0 x1 x2 x3 x4 x5 x6 W => r5_any c x0 x1 x2 x3 x4 x5 x6 W) (hb.kc hW) (h.kc hW) ent_channel_1_1⟩

theorem ok_5 (c : CfgV) (w : World) (h : CfgAt w c) (pb : Nat) (hb : Blk w pb #[.func (.func 72) #[] #[]] 117) : RuleOk w c 91 #[.pointer (some ⟨pb, 0, none⟩)] (spRule c 5) :=
  ⟨ent_channel_1, fun W hW => channel1_any _ pb (fun c x0 x1 x2 x3 x4 x5 x6 => !inR x1 0 (c.pn - 1) || !inR x2 0 (c.pn - 1)) c W ent_rules_6 (fun x0 x1 x2 x3 x4 x5 x6 W => r6_any c x0 x1 x2 x3 x4 x5 x6 W h.pn) (hb.kc hW) (h.kc hW) ent_channel_1_1⟩

theorem ok_6 (c : CfgV) (w : World) (h : CfgAt w c) (pb : Nat) (hb : Blk w pb #[.func (.func 74) #[] #[]] 117) : RuleOk w c 91 #[.pointer (some ⟨pb, 0, none⟩)] (spRule c 6) :=
  ⟨ent_channel_1, fun W hW => channel1_any _ pb (fun c x0 x1 x2 x3 x4 x5 x6 => x1 == x2) c W ent_rules_7 (fun x0 x1 x2 x3 x4 x5 x6 W => r7_any c x0 x1 x2 x3 x4 x5 x6 W) (hb.kc hW) (h.kc hW) ent_channel_1_1⟩

theorem ok_7 (c : CfgV) (w : World) (h : CfgAt w c) (pb : Nat) (hb : Blk w pb #[.func (.func 75) #[] #[]] 117) : RuleOk w c 91 #[.pointer (some ⟨pb, 0, none⟩)] (spRule c 7) :=
  ⟨ent_channel_1, fun W hW => channel1_any _ pb (fun c x0 x1 x2 x3 x4 x5 x6 => !inR x3 1 16) c W ent_rules_8 (fun x0 x1 x2 x3 x4 x5 x6 W => r8_any c x0 x1 x2 x3 x4 x5 x6 W) (hb.kc hW) (h.kc hW) ent_channel_1_1⟩

theorem ok_8 (c : CfgV) (w : World) (h : CfgAt w c) (pb : Nat) (hb : Blk w pb #[.func (.func 76) #[] #[]] 117) : RuleOk w c 91 #[.pointer (some ⟨pb, 0, none⟩)] (spRule c 8) :=
  ⟨ent_channel_1, fun W hW => channel1_any _ pb (fun c x0 x1 x2 x3 x4 x5 x6 => !spDeep x0 x4) c W ent_rules_9 (fun x0 x1 x2 x3 x4 x5 x6 W => r9_any c x0 x1 x2 x3 x4 x5 x6 W) (hb.kc hW) (h.kc hW) ent_channel_1_1⟩

theorem ok_9 (c : CfgV) (w : World) (h : CfgAt w c) (pb : Nat) (hb : Blk w pb #[.func (.func 78) #[] #[]] 117) : RuleOk w c 91 #[.pointer (some ⟨pb, 0, none⟩)] (spRule c 9) :=
  ⟨ent_channel_1, fun W hW => channel1_any _ pb (fun c x0 x1 x2 x3 x4 x5 x6 => !spFresh x0 x5) c W ent_rules_10 (fun x0 x1 x2 x3 x4 x5 x6 W => r10_any c x0 x1 x2 x3 x4 x5 x6 W) (hb.kc hW) (h.kc hW) ent_channel_1_1⟩

theorem ok_10 (c : CfgV) (w : World) (h : CfgAt w c) (pb : Nat) (hb : Blk w pb #[.func (.func 80) #[] #[]] 117) : RuleOk w c 91 #[.pointer (some ⟨pb, 0, none⟩)] (spRule c 10) :=
  ⟨ent_channel_1, fun W hW => channel1_any _ pb (fun c x0 x1 x2 x3 x4 x5 x6 => x0 == 1 && x6 != 0) c W ent_rules_11 (fun x0 x1 x2 x3 x4 x5 x6 W => r11_any c x0 x1 x2 x3 x4 x5 x6 W) (hb.kc hW) (h.kc hW) ent_channel_1_1⟩

theorem ok_11 (c : CfgV) (w : World) (h : CfgAt w c) (pb : Nat) (hb : Blk w pb #[.func (.func 82) #[] #[]] 88) : RuleOk w c 94 #[.pointer (some ⟨pb, 0, none⟩)] (spRule c 11) :=
  ⟨ent_frame_1, fun W hW => frame1_any _ pb #[] _ _ c W ent_rules_12 (fun W2 h2 => r12_0 c W2) (fun W2 h2 => r12_1 c W2) (hb.kc hW)⟩

theorem ok_12 (c : CfgV) (w : World) (h : CfgAt w c) (pb : Nat) (hb : Blk w pb #[.func (.func 83) #[] #[]] 88) : RuleOk w c 94 #[.pointer (some ⟨pb, 0, none⟩)] (spRule c 12) :=
  ⟨ent_frame_1, fun W hW => frame1_any _ pb #[] _ _ c W ent_rules_13 (fun W2 h2 => r13_0 c W2) (fun W2 h2 => r13_1 c W2) (hb.kc hW)⟩

theorem ok_15 (c : CfgV) (w : World) (h : CfgAt w c) (pb : Nat) (hb : Blk w pb #[.func (.func 87) #[] #[]] 88) : RuleOk w c 94 #[.pointer (some ⟨pb, 0, none⟩)] (spRule c 15) :=
  ⟨ent_frame_1, fun W hW => frame1_any _ pb #[] _ _ c W ent_crossed (fun W2 h2 => crossed_0 c W2 ((h.kc hW).kept h2)) (fun W2 h2 => crossed_1 c W2 ((h.kc hW).kept h2)) (hb.kc hW)⟩

theorem ok_13 (c : CfgV) (w : World) (h : CfgAt w c) (pb qb : Nat) (hb : Blk w pb #[.func (.func 85) #[] #[]] 121) (hq : Blk w qb #[.func (.func 95) #[] #[.pointer (some ⟨pb, 0, none⟩)]] 88) :
    RuleOk w c 94 #[.pointer (some ⟨qb, 0, none⟩)] (spRule c 13) :=
  ⟨ent_frame_1, fun W hW => frame1_any _ qb #[.pointer (some ⟨pb, 0, none⟩)] _ _ c W ent_window_1
    (fun W2 h2 => window1_0 85 pb (spForeign c 0) c W2 ent_foreign (fun i _ W3 h3 => foreign_any c 0 _ _ _ W3 (((h.kc hW).kept h2).kept h3)) ((hb.kc hW).keep h2 (by simp)) ((h.kc hW).kept h2) ent_window_1_1)
    (fun W2 h2 => window1_1 85 pb (spForeign c 1) c W2 ent_foreign (fun i _ W3 h3 => foreign_any c 1 _ _ _ W3 (((h.kc hW).kept h2).kept h3)) ((hb.kc hW).keep h2 (by simp)) ((h.kc hW).kept h2) ent_window_1_1) (hq.kc hW)⟩

theorem ok_14 (c : CfgV) (w : World) (h : CfgAt w c) (pb qb : Nat) (hb : Blk w pb #[.func (.func 86) #[] #[]] 121) (hq : Blk w qb #[.func (.func 95) #[] #[.pointer (some ⟨pb, 0, none⟩)]] 88) :
    RuleOk w c 94 #[.pointer (some ⟨qb, 0, none⟩)] (spRule c 14) :=
  ⟨ent_frame_1, fun W hW => frame1_any _ qb #[.pointer (some ⟨pb, 0, none⟩)] _ _ c W ent_window_1
    (fun W2 h2 => window1_0 86 pb (fun _ x1 x2 => spOutside x1 x2 c.l0) c W2 ent_outside (fun i _ W3 h3 => outside_0 c _ _ _ W3 h.l0 (h.win0 i 1).hi) ((hb.kc hW).keep h2 (by simp)) ((h.kc hW).kept h2) ent_window_1_1)
    (fun W2 h2 => window1_1 86 pb (fun _ x1 x2 => spOutside x1 x2 c.l1) c W2 ent_outside (fun i _ W3 h3 => outside_1 c _ _ _ W3 h.l1 (h.win1 i 1).hi) ((hb.kc hW).keep h2 (by simp)) ((h.kc hW).kept h2) ent_window_1_1) (hq.kc hW)⟩

set_option maxRecDepth 100000 in
set_option maxHeartbeats 1000000 in
theorem rules_any (c : CfgV) (w : World) (h : CfgAt w c) : Calls Try.prog 62 #[] w (RulesPost c w) := by
  have Hc := Lib.hid h
  clear h
  go_enter Try.func62, Try.ntmps62
  go_wp2_with fail
  refine (part_makes _ _ _).mono ?_
  rintro e w0 ⟨rfl, hk0, hb0⟩
  go_wp2_with fail
  refine (part_makes _ _ _).mono ?_
  rintro e w1 ⟨rfl, hk1, hb1⟩
  go_wp2_with fail
  refine (channel_makes _ _ _).mono ?_
  rintro e w2 ⟨rfl, hk2, hb2⟩
  go_wp2_with fail
  refine (channel_makes _ _ _).mono ?_
  rintro e w3 ⟨rfl, hk3, hb3⟩
  go_wp2_with fail
  refine (channel_makes _ _ _).mono ?_
  rintro e w4 ⟨rfl, hk4, hb4⟩
  go_wp2_with fail
  refine (channel_makes _ _ _).mono ?_
  rintro e w5 ⟨rfl, hk5, hb5⟩
  go_wp2_with fail
  refine (channel_makes _ _ _).mono ?_
  rintro e w6 ⟨rfl, hk6, hb6⟩
  go_wp2_with fail
  refine (channel_makes _ _ _).mono ?_
  rintro e w7 ⟨rfl, hk7, hb7⟩
  go_wp2_with fail
  refine (channel_makes _ _ _).mono ?_
  rintro e w8 ⟨rfl, hk8, hb8⟩
  go_wp2_with fail
  refine (frame_makes _ _ _).mono ?_
  rintro e w9 ⟨rfl, hk9, hb9⟩
  go_wp2_with fail
  refine (frame_makes _ _ _).mono ?_
  rintro e w10 ⟨rfl, hk10, hb10⟩
  go_wp2_with fail
  refine (window_makes _ _).mono ?_
  rintro e w11 ⟨q11, rfl, hk11, hb11, hq11⟩
  go_wp2_with fail
  refine (window_makes _ _).mono ?_
  rintro e w12 ⟨q12, rfl, hk12, hb12, hq12⟩
  go_wp2_with fail
  refine (frame_makes _ _ _).mono ?_
  rintro e w13 ⟨rfl, hk13, hb13⟩
  have hB0 := hb0.keep ((((((((((((((Keeps.refl [] _).trans hk1).trans hk2).trans hk3).trans hk4).trans hk5).trans hk6).trans hk7).trans hk8).trans hk9).trans hk10).trans hk11).trans hk12).trans hk13) (by simp)
  have hB1 := hb1.keep (((((((((((((Keeps.refl [] _).trans hk2).trans hk3).trans hk4).trans hk5).trans hk6).trans hk7).trans hk8).trans hk9).trans hk10).trans hk11).trans hk12).trans hk13) (by simp)
  have hB2 := hb2.keep ((((((((((((Keeps.refl [] _).trans hk3).trans hk4).trans hk5).trans hk6).trans hk7).trans hk8).trans hk9).trans hk10).trans hk11).trans hk12).trans hk13) (by simp)
  have hB3 := hb3.keep (((((((((((Keeps.refl [] _).trans hk4).trans hk5).trans hk6).trans hk7).trans hk8).trans hk9).trans hk10).trans hk11).trans hk12).trans hk13) (by simp)
  have hB4 := hb4.keep ((((((((((Keeps.refl [] _).trans hk5).trans hk6).trans hk7).trans hk8).trans hk9).trans hk10).trans hk11).trans hk12).trans hk13) (by simp)
  have hB5 := hb5.keep (((((((((Keeps.refl [] _).trans hk6).trans hk7).trans hk8).trans hk9).trans hk10).trans hk11).trans hk12).trans hk13) (by simp)
  have hB6 := hb6.keep ((((((((Keeps.refl [] _).trans hk7).trans hk8).trans hk9).trans hk10).trans hk11).trans hk12).trans hk13) (by simp)
  have hB7 := hb7.keep (((((((Keeps.refl [] _).trans hk8).trans hk9).trans hk10).trans hk11).trans hk12).trans hk13) (by simp)
  have hB8 := hb8.keep ((((((Keeps.refl [] _).trans hk9).trans hk10).trans hk11).trans hk12).trans hk13) (by simp)
  have hB9 := hb9.keep (((((Keeps.refl [] _).trans hk10).trans hk11).trans hk12).trans hk13) (by simp)
  have hB10 := hb10.keep ((((Keeps.refl [] _).trans hk11).trans hk12).trans hk13) (by simp)
  have hB11 := hb11.keep (((Keeps.refl [] _).trans hk12).trans hk13) (by simp)
  have hB12 := hb12.keep ((Keeps.refl [] _).trans hk13) (by simp)
  have hB13 := hb13.keep (Keeps.refl [] _) (by simp)
  have hQ11 := hq11.keep (((Keeps.refl [] _).trans hk12).trans hk13) (by simp)
  have hQ12 := hq12.keep ((Keeps.refl [] _).trans hk13) (by simp)
  have hkA : Keeps [] w w13 := (((((((((((((((Keeps.refl [] _).trans hk0).trans hk1).trans hk2).trans hk3).trans hk4).trans hk5).trans hk6).trans hk7).trans hk8).trans hk9).trans hk10).trans hk11).trans hk12).trans hk13)
  clear hk0 hk1 hk2 hk3 hk4 hk5 hk6 hk7 hk8 hk9 hk10 hk11 hk12 hk13 hb0 hb1 hb2 hb3 hb4 hb5 hb6 hb7 hb8 hb9 hb10 hb11 hb12 hb13 hq11 hq12
  go_wp2
  go_ret
  refine ⟨_, _, rfl, hkA.alloc _, Blk.new _ _ _, ?_⟩
  intro i hi
  match i, hi with
  | 0, _ => exact ⟨_, _, rfl, ok_0 c _ (Hc.out.kept (hkA.alloc _))⟩
  | 1, _ => exact ⟨_, _, rfl, ok_1 c _ (Hc.out.kept (hkA.alloc _)) _ (hB0.alloc _)⟩
  | 2, _ => exact ⟨_, _, rfl, ok_2 c _ (Hc.out.kept (hkA.alloc _)) _ (hB1.alloc _)⟩
  | 3, _ => exact ⟨_, _, rfl, ok_3 c _ (Hc.out.kept (hkA.alloc _))⟩
  | 4, _ => exact ⟨_, _, rfl, ok_4 c _ (Hc.out.kept (hkA.alloc _)) _ (hB2.alloc _)⟩
  | 5, _ => exact ⟨_, _, rfl, ok_5 c _ (Hc.out.kept (hkA.alloc _)) _ (hB3.alloc _)⟩
  | 6, _ => exact ⟨_, _, rfl, ok_6 c _ (Hc.out.kept (hkA.alloc _)) _ (hB4.alloc _)⟩
  | 7, _ => exact ⟨_, _, rfl, ok_7 c _ (Hc.out.kept (hkA.alloc _)) _ (hB5.alloc _)⟩
  | 8, _ => exact ⟨_, _, rfl, ok_8 c _ (Hc.out.kept (hkA.alloc _)) _ (hB6.alloc _)⟩
  | 9, _ => exact ⟨_, _, rfl, ok_9 c _ (Hc.out.kept (hkA.alloc _)) _ (hB7.alloc _)⟩
  | 10, _ => exact ⟨_, _, rfl, ok_10 c _ (Hc.out.kept (hkA.alloc _)) _ (hB8.alloc _)⟩
  | 11, _ => exact ⟨_, _, rfl, ok_11 c _ (Hc.out.kept (hkA.alloc _)) _ (hB9.alloc _)⟩
  | 12, _ => exact ⟨_, _, rfl, ok_12 c _ (Hc.out.kept (hkA.alloc _)) _ (hB10.alloc _)⟩
  | 13, _ => exact ⟨_, _, rfl, ok_13 c _ (Hc.out.kept (hkA.alloc _)) _ _ (hB11.alloc _) (hQ11.alloc _)⟩
  | 14, _ => exact ⟨_, _, rfl, ok_14 c _ (Hc.out.kept (hkA.alloc _)) _ _ (hB12.alloc _) (hQ12.alloc _)⟩
  | 15, _ => exact ⟨_, _, rfl, ok_15 c _ (Hc.out.kept (hkA.alloc _)) _ (hB13.alloc _)⟩
  | 16, _ => exact ⟨_, _, rfl, ok_16 c _ (Hc.out.kept (hkA.alloc _))⟩
  | n + 17, h => exact absurd h (by omega)
end Go.Proofs.Ytpkjffiajidfcaa

/- All, First and Accepts of package defect. -/
namespace Go.Proofs.Ytpkjffiajidfcaa
open Go.RowKit Go.Shelf
attribute [local go_sem] Oper.semAt_some

/-- The defects' numbers among the first n, from 1 on. -/
def defs (c : CfgV) (n : Nat) : List Nat := ((List.range n).filter (spRule c)).map (· + 1)

theorem defs_succ_yes {c : CfgV} {n : Nat} (h : spRule c n = true) : defs c (n + 1) = defs c n ++ [n + 1] := by
  unfold defs
  rw [List.range_succ, List.filter_append]
  simp [h]

theorem defs_succ_no {c : CfgV} {n : Nat} (h : spRule c n = false) : defs c (n + 1) = defs c n := by
  unfold defs
  rw [List.range_succ, List.filter_append]
  simp [h]

theorem defs_pre (c : CfgV) (n m : Nat) : defs c n <+: defs c (n + m) := by
  induction m with
  | zero => exact List.prefix_refl _
  | succ m ih =>
    refine ih.trans ?_
    show defs c (n + m) <+: defs c (n + m + 1)
    cases h : spRule c (n + m)
    · rw [defs_succ_no h]; exact List.prefix_refl _
    · rw [defs_succ_yes h]; exact List.prefix_append _ _

theorem defs_len (c : CfgV) (n : Nat) : (defs c n).length ≤ n := by
  unfold defs
  rw [List.length_map]
  exact Nat.le_trans (List.length_filter_le _ _) (by simp)

theorem KC.putObj {W : World} {l : Nat} {o : Obj} (o' : Obj) (h : W.heap[l]? = some o) (ho : o.isCells = false) : KC W (W.putObj l o') := by
  refine ⟨(grownBy_putObj' W l o').size, fun b c t fr hb => ?_⟩
  rw [(grownBy_putObj' W l o').block b (lt_of_block hb) (fun e => by
    cases e
    rw [h] at hb
    cases hb
    cases ho)]
  exact hb

theorem Keeps.grownBy {w w' : World} (h : Keeps [] w w') : w.grownBy w' none := ⟨h.os, h.tape, h.output, h.size, fun k hk _ => h.block k hk (by simp)⟩


theorem All_any (c : CfgV) (w : World) : Calls Try.prog 58 #[.agg c.cells] w fun e w' => e = .returned (.func (.func 61) #[] #[.pointer (some ⟨w.heap.size, 0, none⟩)]) ∧ w.alloc (.cells c.cells 31) = w' := by
  have hmf : ∀ (fn : Fn) (first cap : Array Value) (w : World), (Instr.makeFunc fn first cap).run Try.prog w = .ok (.func fn first cap) w := fun _ _ _ _ => rfl
  go_enter Try.func58, Try.ntmps58
  go_wp2
  go_ret
  exact ⟨rfl, rfl⟩

set_option maxRecDepth 100000 in
set_option maxHeartbeats 2000000 in
/-- The iterator tells the defects' numbers, rising, whatever the loop's body does that keeps all cells. -/
theorem All_stops (n : Nat) (hn : 3 ≤ n) (cb : Nat) (c : CfgV) (w0 : World) (hb0 : Blk w0 cb c.cells 31) (hc0 : CfgAt w0 c) :
    SeqStopsK Fence.wide n Try.prog 61 #[.pointer (some ⟨cb, 0, none⟩)] (fun x : Nat => #[.int .i64 (x : Int)]) KC (fun xs => xs = defs c 17) (fun pre => pre <+: defs c 17) 17 w0 := by
  intro l J Jx W hW hJ hJx hY h0
  have hkc : KC w0 W := ⟨hW.size, fun b x t fr hx => (hW.block b (lt_of_block hx)).trans hx⟩
  have hbx := hb0.kc hkc
  have hcx := hc0.kc hkc
  have HJ := Lib.hid hJ
  have HY := Lib.hid hY
  clear hJ hY hJx hkc hb0 hc0
  refine callsIn_of_wp Try.func61 rfl trivial ?_ rfl
  simp only [Try.ntmps61, List.size_toArray, List.length_cons, List.length_nil, Nat.reduceAdd, Nat.reduceSub, Array.replicate_succ, Array.replicate_zero, List.push_toArray, List.append_toArray, List.nil_append, List.cons_append]
  gi_wp2_with fail
  refine ⟨trivial, fun _ => by omega, ?_⟩
  refine (callsIn_wide.2 (rules_any c _ hcx)).mono ?_
  rintro e w1 ⟨rb, vs, rfl, hk1, hr1, hok⟩
  have Hok := Lib.hid hok
  clear hok hcx
  gi_wp2_with fail
  have hJ1 : J [] w1 := HJ.out [] W w1 none h0 hk1.grownBy (by simp)
  have hbx1 := hbx.kc hk1.kc
  gi_loopw [7] (fun v wr => ∃ i : Nat, i ≤ 17 ∧ v = .int .i64 i ∧ J (defs c i) wr ∧ KC w1 wr) (fun v _ => 17 - (intOf v).toNat)
  case atStart => exact ⟨0, Nat.zero_le _, rfl, hJ1, KC.refl _⟩
  case round =>
    obtain ⟨i, hi, rfl, hJi, hk⟩ := hrel
    by_cases hlt : i < 17
    · obtain ⟨k, cap, hvs, hent, hrun⟩ := Hok.out i hlt
      have Hrun := Lib.hid hrun
      unfold Enters at hent
      clear hrun
      have hi0 : (0 : Int) ≤ (i : Int) := Int.natCast_nonneg _
      have hi1 : (i : Int) < 17 := by omega
      have cV : wr.cell? ⟨rb, i, none⟩ = some (.func (.func k) #[] cap) := ((hr1.kc hk).cell i).trans hvs
      have cC := (hbx1.kc hk).cell
      have lr := (hr1.kc hk).lt
      have lc := (hbx1.kc hk).lt
      have Hvs := Lib.hid hvs
      clear hvs
      cases hs : spRule c i
      · gi_wp2_with fail
        refine ⟨trivial, fun _ => by omega, ?_⟩
        refine (callsIn_wide.2 (Hrun.out _ (hk.trans (((Keeps.refl [] _).alloc _).kc)))).mono ?_
        rintro e w2 ⟨rfl, hk2⟩
        have hkw : Keeps [] wr w2 := Keeps.trans (by (repeat' with_reducible (first | exact Keeps.refl _ _ | assumption | apply Keeps.drew | apply Keeps.drewN | apply Keeps.alloc | refine Keeps.trans ?_ hk1 | refine Keeps.trans ?_ hk2 | refine Keeps.trans ?_ hk3))) hk2
        have hJ2 : J (defs c i) w2 := HJ.out _ wr w2 none hJi hkw.grownBy (by simp)
        have hK2 : KC w1 w2 := hk.trans hkw.kc
        have hs2 := Lib.hid hs
        simp only [hs]
        clear hk hk2 cV cC hJi hs hkw
        gi_wp2
        refine ⟨fun _ h => (by cases h), ?_⟩
        gi_wp2
        go_roundw
        case rel => exact ⟨i + 1, by omega, by go_num, by rw [defs_succ_no hs2.out]; exact hJ2, hK2⟩
        case measure => simp [intOf]; omega
      · gi_wp2_with fail
        refine ⟨trivial, fun _ => by omega, ?_⟩
        refine (callsIn_wide.2 (Hrun.out _ (hk.trans (((Keeps.refl [] _).alloc _).kc)))).mono ?_
        rintro e w2 ⟨rfl, hk2⟩
        have hkw : Keeps [] wr w2 := Keeps.trans (by (repeat' with_reducible (first | exact Keeps.refl _ _ | assumption | apply Keeps.drew | apply Keeps.drewN | apply Keeps.alloc | refine Keeps.trans ?_ hk1 | refine Keeps.trans ?_ hk2 | refine Keeps.trans ?_ hk3))) hk2
        have hJ2 : J (defs c i) w2 := HJ.out _ wr w2 none hJi hkw.grownBy (by simp)
        have hK2 : KC w1 w2 := hk.trans hkw.kc
        obtain ⟨fn, tmps, assign, body, hy, hR⟩ := HY.out (defs c i) (i + 1) w2 hJ2 (Nat.lt_of_le_of_lt (defs_len c i) hlt)
        have ei : ((i + 1 : Nat) : Int) = (i : Int) + 1 := by omega
        rw [ei] at hy
        clear ei
        have hs2 := Lib.hid hs
        have hR2 := Lib.hid hR
        simp only [hs]
        clear hk hk2 cV cC hJi hs hkw hR
        gi_wp2
        refine ⟨fun _ => by omega, ?_⟩
        refine hR2.out.mono ?_
        rintro e W3 (⟨rfl, hJ3, hk3⟩ | ⟨rfl, hJx3⟩)
        · gi_wp2
          go_roundw
          case rel => exact ⟨i + 1, by omega, by go_num, by rw [defs_succ_yes hs2.out]; exact hJ3, hK2.trans hk3⟩
          case measure => simp [intOf]; omega
        · gi_wp2
          refine bodyPost_ret (results_none rfl _ _ _) rfl ?_
          refine ⟨⟨_, rfl⟩, .inr ⟨defs c i ++ [i + 1], ?_, hJx3⟩⟩
          rw [← defs_succ_yes hs2.out]
          obtain ⟨m, hm⟩ : ∃ m, 17 = i + 1 + m := ⟨16 - i, by omega⟩
          rw [hm]
          exact defs_pre c (i + 1) m
    · have h17 : i = 17 := by omega
      gi_wp2
      go_end0
      exact ⟨⟨_, rfl⟩, .inl ⟨_, rfl, by rw [← h17]; exact hJi⟩⟩


def spFirst (c : CfgV) : Int := ((defs c 17).headD 0 : Nat)
def spAcc (c : CfgV) : Bool := (defs c 17).isEmpty

theorem first_acc (c : CfgV) : (spFirst c == 0) = spAcc c := by
  unfold spFirst spAcc
  cases h : defs c 17 with
  | nil => rfl
  | cons x l =>
    have : x ∈ defs c 17 := by rw [h]; simp
    unfold defs at this
    simp only [List.mem_map] at this
    obtain ⟨y, _, rfl⟩ := this
    simp
    omega

set_option maxRecDepth 100000 in
set_option maxHeartbeats 2000000 in
theorem First_in (n : Nat) (hn : 4 ≤ n) (c : CfgV) (w : World) (h : CfgAt w c) :
    CallsIn Fence.wide n Try.prog 55 #[.agg c.cells] w fun e W' => e = .returned (.int .i64 (spFirst c)) ∧ Below w.heap.size w W' := by
  have h1 : 1 ≤ n := by omega
  have Hc := Lib.hid h
  clear h
  simp only [CfgV.cells]
  refine callsIn_of_wp_marks Try.func55 rfl trivial ?_ rfl
  simp only [Try.ntmps55, List.size_toArray, List.length_cons, List.length_nil, Nat.reduceAdd, Nat.reduceSub, Array.replicate_succ, Array.replicate_zero, List.push_toArray, List.append_toArray, List.nil_append, List.cons_append]
  gi_wp2_with fail
  refine ⟨trivial, ?_⟩
  refine (callsIn_wide.2 (All_any c _)).mono ?_
  rintro e w' ⟨rfl, rfl⟩
  gi_wp2_with fail
  have hB0 : Below w.heap.size w (((w.alloc (.cells #[.slice c.pa c.pn c.pc, .slice c.ca c.cn c.cc, .int .i64 c.l0, .slice c.w0a c.w0n c.w0c, .int .i64 c.l1, .slice c.w1a c.w1n c.w1c] 31)).alloc (.cells #[.int .i64 0] 3)).alloc (.cells #[.slice c.pa c.pn c.pc, .slice c.ca c.cn c.cc, .int .i64 c.l0, .slice c.w0a c.w0n c.w0c, .int .i64 c.l1, .slice c.w1a c.w1n c.w1c] 31)) := (((Below.refl _ w).alloc (Nat.le_refl _) _).alloc (by simp) _).alloc (by simp; omega) _
  have hC0 : CfgAt (((w.alloc (.cells #[.slice c.pa c.pn c.pc, .slice c.ca c.cn c.cc, .int .i64 c.l0, .slice c.w0a c.w0n c.w0c, .int .i64 c.l1, .slice c.w1a c.w1n c.w1c] 31)).alloc (.cells #[.int .i64 0] 3)).alloc (.cells #[.slice c.pa c.pn c.pc, .slice c.ca c.cn c.cc, .int .i64 c.l0, .slice c.w0a c.w0n c.w0c, .int .i64 c.l1, .slice c.w1a c.w1n c.w1c] 31)) c := ((Hc.out.alloc _).alloc _).alloc _
  have hX0 : Blk (((w.alloc (.cells #[.slice c.pa c.pn c.pc, .slice c.ca c.cn c.cc, .int .i64 c.l0, .slice c.w0a c.w0n c.w0c, .int .i64 c.l1, .slice c.w1a c.w1n c.w1c] 31)).alloc (.cells #[.int .i64 0] 3)).alloc (.cells #[.slice c.pa c.pn c.pc, .slice c.ca c.cn c.cc, .int .i64 c.l0, .slice c.w0a c.w0n c.w0c, .int .i64 c.l1, .slice c.w1a c.w1n c.w1c] 31)) (w.heap.size + 1 + 1) c.cells 31 := Blk.newAt (by simp)
  have hR0 : Blk (((w.alloc (.cells #[.slice c.pa c.pn c.pc, .slice c.ca c.cn c.cc, .int .i64 c.l0, .slice c.w0a c.w0n c.w0c, .int .i64 c.l1, .slice c.w1a c.w1n c.w1c] 31)).alloc (.cells #[.int .i64 0] 3)).alloc (.cells #[.slice c.pa c.pn c.pc, .slice c.ca c.cn c.cc, .int .i64 c.l0, .slice c.w0a c.w0n c.w0c, .int .i64 c.l1, .slice c.w1a c.w1n c.w1c] 31)) (w.heap.size + 1) #[.int .i64 0] 3 := (Blk.newAt (by simp)).alloc _
  have hS0 : (((w.alloc (.cells #[.slice c.pa c.pn c.pc, .slice c.ca c.cn c.cc, .int .i64 c.l0, .slice c.w0a c.w0n c.w0c, .int .i64 c.l1, .slice c.w1a c.w1n c.w1c] 31)).alloc (.cells #[.int .i64 0] 3)).alloc (.cells #[.slice c.pa c.pn c.pc, .slice c.ca c.cn c.cc, .int .i64 c.l0, .slice c.w0a c.w0n c.w0c, .int .i64 c.l1, .slice c.w1a c.w1n c.w1c] 31)).heap.size = w.heap.size + 1 + 1 + 1 := by simp
  refine wpIn_rangeFunc_ownF rfl h1 (gf := 61) (lb := #[.pointer (some ⟨w.heap.size + 1 + 1, 0, none⟩)]) rfl trivial (enters_of Try.func61 (by kernel_rfl) rfl)
    (All_stops (n - 1) (by omega) (w.heap.size + 1 + 1) c _ hX0 hC0) (fun h k => KC.trans h k) (fun W l o o' _ hl ho _ => KC.putObj o' hl ho) (Below.refl _ _) (fun _ => rfl)
    (fun pre W => (pre = [] ∧ W.cell? ⟨w.heap.size + 1, 0, none⟩ = some (.int .i64 0) ∧ W.frozen? ⟨w.heap.size + 1, 0, none⟩ = false) ∧ Below w.heap.size w W)
    (fun k pre W => (k = .ret ∧ ∃ x : Nat, pre = [x] ∧ W.cell? ⟨w.heap.size + 1, 0, none⟩ = some (.int .i64 (x : Int))) ∧ Below w.heap.size w W)
    (OwnFrom.and (Own.from (fun s A B row hs hg hr => ⟨hs.1, cell_kept hs.2.1 hg hr, (frozen_kept hs.2.1 hg hr).trans hs.2.2⟩) _) (ownFrom_below (Nat.le_refl _) (by simp; omega)))
    (fun c => OwnFrom.and (Own.from (fun s A B row hs hg hr => ⟨hs.1, hs.2.elim fun x hx => ⟨x, hx.1, cell_kept hx.2 hg hr⟩⟩) _) (ownFrom_below (Nat.le_refl _) (by simp; omega)))
    ⟨⟨rfl, hR0.cell 0, hR0.frozen 0⟩, hB0⟩
    (fun x => { tmps := #[.agg #[.slice c.pa c.pn c.pc, .slice c.ca c.cn c.cc, .int .i64 c.l0, .slice c.w0a c.w0n c.w0c, .int .i64 c.l1, .slice c.w1a c.w1n c.w1c], .pointer (some ⟨w.heap.size, 0, none⟩), .pointer (some ⟨w.heap.size + 1, 0, none⟩), .int .i64 (x : Int), .agg #[.slice c.pa c.pn c.pc, .slice c.ca c.cn c.cc, .int .i64 c.l0, .slice c.w0a c.w0n c.w0c, .int .i64 c.l1, .slice c.w1a c.w1n c.w1c], .func (.func 61) #[] #[.pointer (some ⟨w.heap.size + 1 + 1, 0, none⟩)], .int .i64 (x : Int), undef], defers := [] }) ?assign ?body ?done ?stop
  case assign =>
    intro l x W K hK
    gi_wp2
    exact hK
  case body =>
    rintro l pre x W ⟨⟨rfl, hcr, hfr⟩, hB⟩ _
    gi_wp2
    exact ⟨KeepsOthers.setCell _ _ _, ⟨rfl, x, rfl, World.cell?_setCell_same' _ _ _ (by rw [hcr]; rfl)⟩, hB.setCell (p := ⟨w.heap.size + 1, 0, none⟩) (by simp) _⟩
  case done =>
    rintro D xs W hD rfl ⟨⟨hnil, hcr, hfr⟩, hB⟩ hK
    gi_wp2
    have hK' := (KeepsOthers.setCell W ⟨w.heap.size + 1, 0, none⟩ (.int .i64 0)).same D _ hK rfl
    refine ⟨by simp, .inl ⟨_, _, rfl, run_takeDeferred hK', ?_⟩⟩
    have hc5 := cell_kept (World.cell?_setCell_same' W ⟨w.heap.size + 1, 0, none⟩ (.int .i64 0) (by rw [hcr]; rfl)) (grownBy_putObj' _ D (.deferred none)) (fun r e => by cases e; exact ⟨_, hK', rfl⟩)
    have hz : spFirst c = 0 := by unfold spFirst; rw [hnil]; rfl
    refine ⟨.int .i64 0, ?_, by rw [hz], (hB.setCell (p := ⟨w.heap.size + 1, 0, none⟩) (by simp) _).trans (belowK_b (w := w) (Nat.le_refl _) _ D _ _ (by simp at hD; omega) hK' rfl rfl)⟩
    simp [results, Try.f55, go_sem, hc5]
  case stop =>
    rintro D k pre W hD hpre ⟨⟨rfl, x, rfl, hcr⟩, hB⟩ hK
    gi_wp2
    refine ⟨by simp, .inl ⟨_, _, rfl, run_takeDeferred hK, ?_⟩⟩
    have hc5 := cell_kept hcr (grownBy_putObj' _ D (.deferred none)) (fun r e => by cases e; exact ⟨_, hK, rfl⟩)
    have hz : spFirst c = (x : Int) := by
      unfold spFirst
      obtain ⟨t, ht⟩ := hpre
      rw [← ht]; rfl
    refine ⟨.int .i64 (x : Int), ?_, by rw [hz], hB.trans (belowK_b (w := w) (Nat.le_refl _) W D _ _ (by simp at hD; omega) hK rfl rfl)⟩
    simp [results, Try.f55, go_sem, hc5]

theorem First_any (c : CfgV) (w : World) (h : CfgAt w c) : Calls Try.prog 55 #[.agg c.cells] w (Says (.int .i64 (spFirst c)) w) :=
  (callsIn_wide.1 (First_in 4 (Nat.le_refl _) c w h)).mono fun _ _ ⟨he, hb⟩ => ⟨he, hb.os, hb.tape, hb.output, hb.size, fun k hk _ => hb.block k hk⟩

theorem Accepts_any (c : CfgV) (w : World) (h : CfgAt w c) : Calls Try.prog 45 #[.agg c.cells] w (Says (.bool (spAcc c)) w) := by
  have H : ∀ W, Keeps [] w W → Calls Try.prog 55 #[.agg c.cells] W (Says (.int .i64 (spFirst c)) W) := fun W hW => First_any c W (h.kept hW)
  have H' := Lib.hid H
  have hfa := first_acc c
  clear H h
  generalize spFirst c = z at *
  generalize spAcc c = b at *
  go_enter Try.func45, Try.ntmps45
  go_wp2_with fail
  refine (H'.out _ ?_).mono ?_
  · (repeat' with_reducible (first | exact Keeps.refl _ _ | assumption | apply Keeps.drew | apply Keeps.drewN | apply Keeps.alloc | refine Keeps.trans ?_ hk1 | refine Keeps.trans ?_ hk2 | refine Keeps.trans ?_ hk3))
  rintro e w1 ⟨rfl, hk1⟩
  go_wp2
  go_ret
  exact ⟨ret_bool (by simp [*]), by (repeat' with_reducible (first | exact Keeps.refl _ _ | assumption | apply Keeps.drew | apply Keeps.drewN | apply Keeps.alloc | refine Keeps.trans ?_ hk1 | refine Keeps.trans ?_ hk2 | refine Keeps.trans ?_ hk3))⟩

end Go.Proofs.Ytpkjffiajidfcaa
