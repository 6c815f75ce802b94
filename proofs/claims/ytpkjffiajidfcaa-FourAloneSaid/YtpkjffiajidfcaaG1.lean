/- Base words for the walks: blocks known whole, what a call keeps, a memory of 32-bit words. -/
import Derived.Test.YtpkjffiajidfcaaProg
import Derived.Tactics
import Derived.Tactics2
import Derived.WalkKit
import Derived.WalkSpells
import Derived.WalkLawsBesides
import Derived.Laws.EntriesVeiled
import Derived.Lib.Hide
import Derived.Deep.RegionHeld3
import Derived.Deep.QuietTactic
import Derived.BigQuiet
import Derived.KernelRfl
import Derived.OneCell
import Derived.Deep.AppendLies
import Derived.Laws.BitsAllLaws
import Derived.OrdersHeld
set_option linter.all false
set_option linter.unusedVariables false
set_option linter.unusedSimpArgs false

namespace Go.Proofs.Ytpkjffiajidfcaa
open Go.RowKit

/-- Block b is a row of cells, none of them frozen. -/
def Blk (w : World) (b : Nat) (vs : Array Value) (t : TypeId) : Prop := w.heap[b]? = some (.cells vs t (0, 0))

/-- What a call keeps: all blocks that were there, but those of a list. -/
structure Keeps (l : List Nat) (w w' : World) : Prop where
  os : w'.os = w.os
  tape : w'.tape = w.tape
  output : w'.output = w.output
  size : w.heap.size ≤ w'.heap.size
  block : ∀ k, k < w.heap.size → k ∉ l → w'.heap[k]? = w.heap[k]?

theorem Keeps.refl (l : List Nat) (w : World) : Keeps l w w := ⟨rfl, rfl, rfl, Nat.le_refl _, fun _ _ _ => rfl⟩

theorem Keeps.trans {l : List Nat} {a b c : World} (h : Keeps l a b) (k : Keeps l b c) : Keeps l a c :=
  ⟨k.os.trans h.os, k.tape.trans h.tape, k.output.trans h.output, Nat.le_trans h.size k.size, fun i hi hl => (k.block i (Nat.lt_of_lt_of_le hi h.size) hl).trans (h.block i hi hl)⟩

theorem Keeps.mono {l m : List Nat} {a b : World} (h : Keeps l a b) (hm : ∀ x, x ∈ l → x < a.heap.size → x ∈ m) : Keeps m a b :=
  ⟨h.os, h.tape, h.output, h.size, fun k hk hl => h.block k hk (fun hx => hl (hm k hx hk))⟩

theorem Keeps.below {a b : World} (h : Keeps [] a b) : Below a.heap.size a b := ⟨h.os, h.tape, h.output, h.size, fun k hk => h.block k hk (by simp)⟩

theorem Keeps.drew {l : List Nat} {a w : World} (h : Keeps l a w) : Keeps l a w.drew := ⟨h.os, h.tape, h.output, h.size, h.block⟩

theorem Keeps.drewN {l : List Nat} {a w : World} {n : Nat} (h : Keeps l a w) : Keeps l a (w.drewN n) := ⟨h.os, h.tape, h.output, h.size, h.block⟩

theorem Keeps.alloc {l : List Nat} {a w : World} (h : Keeps l a w) (o : Obj) : Keeps l a (w.alloc o) :=
  h.trans ⟨rfl, rfl, rfl, by simp, fun k hk _ => Below.heap_alloc _ _ _ hk⟩

theorem Keeps.setCell {l : List Nat} {a w : World} (h : Keeps l a w) {p : Addr} (hp : p.block < a.heap.size → p.block ∈ l) (u : Value) : Keeps l a (w.setCell p u) :=
  ⟨h.os, h.tape, h.output, by have := h.size; simpa [World.setCell] using this, fun k hk hl => by
    rw [Below.heap_setCell _ _ _ _ (fun e => hl (by subst e; exact hp hk))]; exact h.block k hk hl⟩

theorem Keeps.cell {l : List Nat} {w w' : World} (h : Keeps l w w') {b o : Nat} (hb : b < w.heap.size) (hl : b ∉ l) : w'.cell? ⟨b, o, none⟩ = w.cell? ⟨b, o, none⟩ :=
  World.cell?_of_block (h.block b hb hl)

theorem Blk.lt {w : World} {b : Nat} {vs : Array Value} {t : TypeId} (h : Blk w b vs t) : b < w.heap.size := lt_of_block h

theorem Blk.keep {l : List Nat} {w w' : World} {b : Nat} {vs : Array Value} {t : TypeId} (h : Blk w b vs t) (k : Keeps l w w') (hl : b ∉ l) : Blk w' b vs t :=
  (k.block b h.lt hl).trans h

theorem Blk.cell {w : World} {b : Nat} {vs : Array Value} {t : TypeId} (h : Blk w b vs t) (i : Nat) : w.cell? ⟨b, i, none⟩ = vs[i]? := by
  simp [World.cell?, show w.heap[b]? = _ from h]

theorem Blk.frozen {w : World} {b : Nat} {vs : Array Value} {t : TypeId} (h : Blk w b vs t) (i : Nat) : w.frozen? ⟨b, i, none⟩ = false := by
  simp [World.frozen?, show w.heap[b]? = _ from h]

theorem Blk.drew {w : World} {b : Nat} {vs : Array Value} {t : TypeId} (h : Blk w b vs t) : Blk w.drew b vs t := h

theorem Blk.alloc {w : World} {b : Nat} {vs : Array Value} {t : TypeId} (h : Blk w b vs t) (o : Obj) : Blk (w.alloc o) b vs t :=
  (Below.heap_alloc _ _ _ h.lt).trans h

theorem Blk.new (w : World) (vs : Array Value) (t : TypeId) : Blk (w.alloc (.cells vs t)) w.heap.size vs t := by
  show (w.heap.push _)[w.heap.size]? = _
  simp

theorem Blk.set {w : World} {b : Nat} {vs : Array Value} {t : TypeId} (h : Blk w b vs t) (i : Nat) (v : Value) : Blk (w.setCell ⟨b, i, none⟩ v) b (vs.setIfInBounds i v) t := by
  have hlt := h.lt
  have h' : w.heap[b] = .cells vs t (0, 0) := by
    have h := h
    unfold Blk at h
    simpa [Array.getElem?_eq_getElem hlt] using h
  show (w.heap.modify b _)[b]? = _
  rw [Array.getElem?_eq_getElem (by simpa using hlt), Array.getElem_modify_self, h']
  rfl

theorem Blk.setTo {w : World} {b : Nat} {vs vs' : Array Value} {t : TypeId} {i : Nat} {v : Value} (h : Blk w b vs t) (e : vs.setIfInBounds i v = vs') : Blk (w.setCell ⟨b, i, none⟩ v) b vs' t := e ▸ h.set i v

theorem Blk.other {w : World} {b : Nat} {vs : Array Value} {t : TypeId} (h : Blk w b vs t) {p : Addr} (hp : b ≠ p.block) (v : Value) : Blk (w.setCell p v) b vs t :=
  (Below.heap_setCell _ _ _ _ hp).trans h

theorem Blk.drewEx {w : World} {b : Nat} {vs : Array Value} {i : Nat} {t : TypeId} (h : ∃ v, Blk w b (vs.setIfInBounds i v) t) : ∃ v, Blk w.drew b (vs.setIfInBounds i v) t := h

theorem Blk.allocEx {w : World} {b : Nat} {vs : Array Value} {i : Nat} {t : TypeId} {o : Obj} (h : ∃ v, Blk w b (vs.setIfInBounds i v) t) : ∃ v, Blk (w.alloc o) b (vs.setIfInBounds i v) t :=
  let ⟨v, h⟩ := h; ⟨v, h.alloc o⟩

/-- Of a block of which one cell has been written, the other cells. -/
theorem Blk.cell_set {w : World} {b : Nat} {vs : Array Value} {i : Nat} {t : TypeId} (h : ∃ v, Blk w b (vs.setIfInBounds i v) t) (j : Nat) (hj : j ≠ i) : w.cell? ⟨b, j, none⟩ = vs[j]? := by
  obtain ⟨v, h⟩ := h
  rw [h.cell, Array.getElem?_setIfInBounds, if_neg (fun e => hj e.symm)]

/-- What a step did, as Go's struct lays it. -/
structure DidV where
  done : Bool := false
  code : Int := 0
  da : Option Addr := none
  dn : Nat := 0
  dc : Nat := 0
  valid : Bool := false
  count : Int := 0
  mark : Bool := false
  ring : Bool := false
  stamped : Bool := false
  buffer : Int := 0

def DidV.cells (d : DidV) : Array Value := #[.bool d.done, .int .i64 d.code, .slice d.da d.dn d.dc, .bool d.valid, .int .i64 d.count, .bool d.mark, .bool d.ring, .bool d.stamped, .int .i64 d.buffer]

/-- A method value: the function with its receiver. -/
def nextF (f b : Nat) : Value := .func (.func f) #[.pointer (some ⟨b, 0, none⟩)] #[]

theorem lsb_eq (x : Int) (h0 : 0 ≤ x) (h1 : x ≤ 4294967295) : bits BinOp.and IntKind.u32 x 1 = x % 2 := by
  rw [u32_and x 1 h0 (by omega) (by omega) (by omega)]
  have e : (1 : Int).toNat = 1 := rfl
  rw [e, nat_mask1]
  omega

theorem wrap_u32 {n : Int} (h0 : 0 ≤ n) (h1 : n ≤ 4294967295) : IntKind.u32.wrap n = n := by
  simp [IntKind.wrap, IntKind.bits, IntKind.signed]; omega

theorem wrap_i64s {n : Int} (h0 : -4294967296 ≤ n) (h1 : n ≤ 4294967296) : IntKind.i64.wrap n = n := by
  simp [IntKind.wrap, IntKind.bits, IntKind.signed]; omega

theorem wrap_i64m {n : Int} (h0 : 0 ≤ n) (h1 : n ≤ 140737488351232) : IntKind.i64.wrap n = n := by
  simp [IntKind.wrap, IntKind.bits, IntKind.signed]; omega

theorem wrap_i64 {n : Int} (h0 : 0 ≤ n) (h1 : n ≤ 4294967295) : IntKind.i64.wrap n = n := by
  simp [IntKind.wrap, IntKind.bits, IntKind.signed]; omega

theorem Keeps.grown {l : List Nat} {a w w' : World} {row : Option Nat} (h : Keeps l a w) (hg : w.grownBy w' row) (hr : ∀ k, row = some k → k < a.heap.size → k ∈ l) : Keeps l a w' :=
  ⟨hg.os.trans h.os, hg.tape.trans h.tape, hg.output.trans h.output, Nat.le_trans h.size hg.size, fun k hk hl =>
    (hg.block k (Nat.lt_of_lt_of_le hk h.size) (fun e => hl (hr k e.symm hk))).trans (h.block k hk hl)⟩

theorem Blk.grown {w w' : World} {b : Nat} {vs : Array Value} {t : TypeId} {row : Option Nat} (h : Blk w b vs t) (hg : w.grownBy w' row) (hr : some b ≠ row) : Blk w' b vs t :=
  (hg.block b h.lt hr).trans h

theorem ownsRow_drew {w : World} {base : Nat} {e : TypeId} {size : Nat} {v : Value} {n : Nat} {xs : List Value} (h : w.ownsRow base e size v n xs) : w.drew.ownsRow base e size v n xs := h

theorem ownsRow_old {w : World} {base : Nat} {e : TypeId} {size : Nat} {v : Value} {n : Nat} {xs : List Value} (h : w.ownsRow base e size v n xs) {k : Nat} (hk : w.heap.size ≤ k) : some k ≠ v.ownBlock := by
  rcases h.2 with ⟨rfl, _⟩ | ⟨g, cap, cur, rfl, _, hg, _⟩
  · simp [Value.ownBlock]
  · have := lt_of_block hg
    simp only [Value.ownBlock, ne_eq, Option.some.injEq]
    omega

theorem ownsRow_other {w : World} {base : Nat} {e : TypeId} {size : Nat} {v : Value} {n : Nat} {xs : List Value} (h : w.ownsRow base e size v n xs) {a : Addr} (ha : some a.block ≠ v.ownBlock) (u : Value) : (w.setCell a u).ownsRow base e size v n xs :=
  ownsRow_setCell_other h (Ne.symm ha) u

theorem news1 {w : World} {b : Nat} {v : Value} {t : TypeId} (h : Blk w b #[v] t) : ∀ (j : Nat) (u : Value), [v][j]? = some u → w.cell? ((⟨b, 0, none⟩ : Addr).add j) = some u := by
  intro j u hj
  cases j with
  | zero =>
    simp only [List.getElem?_cons_zero, Option.some.injEq] at hj
    subst hj
    exact h.cell 0
  | succ j => simp at hj

/-- The cells of 32-bit words. -/
def u32s (ms : List Int) : Array Value := (ms.map (Value.int .u32)).toArray

/-- The i-th word; 0 beyond the end. -/
def rd (ms : List Int) (i : Nat) : Int := ms.getD i 0

theorem u32s_get (ms : List Int) (i : Nat) (h : i < ms.length) : (u32s ms)[i]? = some (.int .u32 (rd ms i)) := by
  simp [u32s, rd, h]

theorem u32s_set (ms : List Int) (i : Nat) (v : Int) : (u32s ms).setIfInBounds i (.int .u32 v) = u32s (ms.set i v) := by
  simp [u32s, List.map_set]

/-- A memory: the struct in block bm, its words in block bw. -/
structure MemAt (w : World) (bm bw : Nat) (ms : List Int) : Prop where
  hm : Blk w bm #[.slice (some ⟨bw, 0, none⟩) ms.length ms.length] 67
  hw : Blk w bw (u32s ms) 41
  ne : bm ≠ bw
  len : ms.length ≤ 65536

theorem MemAt.drew {w : World} {bm bw : Nat} {ms : List Int} (h : MemAt w bm bw ms) : MemAt w.drew bm bw ms := ⟨h.hm.drew, h.hw.drew, h.ne, h.len⟩

theorem MemAt.alloc {w : World} {bm bw : Nat} {ms : List Int} (h : MemAt w bm bw ms) (o : Obj) : MemAt (w.alloc o) bm bw ms := ⟨h.hm.alloc o, h.hw.alloc o, h.ne, h.len⟩

theorem MemAt.other {w : World} {bm bw : Nat} {ms : List Int} (h : MemAt w bm bw ms) {p : Addr} (h1 : bm ≠ p.block) (h2 : bw ≠ p.block) (v : Value) : MemAt (w.setCell p v) bm bw ms :=
  ⟨h.hm.other h1 v, h.hw.other h2 v, h.ne, h.len⟩

/-- Behind a store the memory is the list with that word set. -/
theorem MemAt.set {w : World} {bm bw : Nat} {ms : List Int} (h : MemAt w bm bw ms) (i : Nat) (v : Int) : MemAt (w.setCell ⟨bw, i, none⟩ (.int .u32 v)) bm bw (ms.set i v) :=
  ⟨by rw [List.length_set]; exact h.hm.other h.ne _, by rw [← u32s_set]; exact h.hw.set i _, h.ne, by rw [List.length_set]; exact h.len⟩

theorem MemAt.grown {w w' : World} {bm bw : Nat} {ms : List Int} {row : Option Nat} (h : MemAt w bm bw ms) (hg : w.grownBy w' row) (h1 : some bm ≠ row) (h2 : some bw ≠ row) : MemAt w' bm bw ms :=
  ⟨h.hm.grown hg h1, h.hw.grown hg h2, h.ne, h.len⟩

theorem MemAt.keep {l : List Nat} {w w' : World} {bm bw : Nat} {ms : List Int} (h : MemAt w bm bw ms) (k : Keeps l w w') (h1 : bm ∉ l) (h2 : bw ∉ l) : MemAt w' bm bw ms :=
  ⟨h.hm.keep k h1, h.hw.keep k h2, h.ne, h.len⟩

theorem Blk.newAt {w : World} {vs : Array Value} {t : TypeId} {n : Nat} (h : n = w.heap.size) : Blk (w.alloc (.cells vs t)) n vs t := by
  subst h; exact Blk.new w vs t

/-- The end of a function that hands back what a step did, out of a block of its own, and the next step. -/
theorem ret_did {fn : Func} {R : Ending → World → Prop} {a : Act} {W : World} {rb : Nat} {did : DidV} {nx : Value}
    (hf : fn.results = #[.cell 6 53, .tmp 7]) (h6 : a.tmps.getD 6 undef = .pointer (some ⟨rb, 0, none⟩)) (h7 : a.tmps.getD 7 undef = nx) (hd : a.defers = [])
    (hb : ∃ vs, Blk W rb vs 53 ∧ vs = did.cells) (hR : R (.returned (.tuple #[.agg did.cells, nx])) W) : bodyPost Try.prog fn R .ret a W := by
  obtain ⟨vs, hb, hvs⟩ := hb
  subst hvs
  have hc : ∀ j, W.cell? ⟨rb, j, none⟩ = did.cells[j]? := hb.cell
  simp only [DidV.cells] at hc hR
  rw [Array.getD_eq_getD_getElem?] at h6 h7
  refine bodyPost_ret ?_ hd hR
  simp [results, hf, h6, h7, go_sem, hc]

theorem ret_did1 {fn : Func} {R : Ending → World → Prop} {a : Act} {W : World} {rb : Nat} {did : DidV}
    (hf : fn.results = #[.cell 6 53]) (h6 : a.tmps.getD 6 undef = .pointer (some ⟨rb, 0, none⟩)) (hd : a.defers = [])
    (hb : ∃ vs, Blk W rb vs 53 ∧ vs = did.cells) (hR : R (.returned (.agg did.cells)) W) : bodyPost Try.prog fn R .ret a W := by
  obtain ⟨vs, hb, hvs⟩ := hb
  subst hvs
  have hc : ∀ j, W.cell? ⟨rb, j, none⟩ = did.cells[j]? := hb.cell
  simp only [DidV.cells] at hc hR
  rw [Array.getD_eq_getD_getElem?] at h6
  refine bodyPost_ret ?_ hd hR
  simp [results, hf, h6, go_sem, hc]

/-- What a step leaves: what it answers, the memory and the object anew, all else as it was. -/
def Steps (v : Value) (b bm bw : Nat) (ms : List Int) (vs : Array Value) (t : TypeId) (w : World) (e : Ending) (w' : World) : Prop :=
  e = .returned v ∧ Keeps [b, bw] w w' ∧ MemAt w' bm bw ms ∧ Blk w' b vs t
end Go.Proofs.Ytpkjffiajidfcaa

/- The memory's calls: Load, Store; four's load, store, slot, buffer. -/
namespace Go.Proofs.Ytpkjffiajidfcaa
open Go.RowKit

theorem there_yes (bm bw : Nat) (ms : List Int) (i : Nat) (w : World) (h : MemAt w bm bw ms) (hi : i < ms.length) :
    Calls Try.prog 48 #[.pointer (some ⟨bm, 0, none⟩), .int .u64 i] w fun e w' => e = .returned (.bool true) ∧ w = w' := by
  have h1 : w.cell? ⟨bm, 0, none⟩ = some (.slice (some ⟨bw, 0, none⟩) ms.length ms.length) := h.hm.cell 0
  have h2 : ms.length ≤ 65536 := h.len
  have hd : decide ((i : Int) < (ms.length : Int)) = true := by simp; omega
  go_enter Try.func48, Try.ntmps48
  go_wp2
  go_ret
  exact ⟨rfl, rfl⟩

theorem Load_yes (bm bw : Nat) (ms : List Int) (i : Nat) (w : World) (h : MemAt w bm bw ms) (hi : i < ms.length) :
    Calls Try.prog 37 #[.pointer (some ⟨bm, 0, none⟩), .int .u64 i] w fun e w' => e = .returned (.tuple #[.int .u32 (rd ms i), .int .i64 0]) ∧ w = w' := by
  have h1 : w.cell? ⟨bm, 0, none⟩ = some (.slice (some ⟨bw, 0, none⟩) ms.length ms.length) := h.hm.cell 0
  have h2 : ms.length ≤ 65536 := h.len
  have h3 : w.cell? ⟨bw, i, none⟩ = some (.int .u32 (rd ms i)) := (h.hw.cell i).trans (u32s_get ms i hi)
  go_enter Try.func37, Try.ntmps37
  go_wp2_with (go_at_call 48; refine (there_yes bm bw ms i _ h hi).mono ?_; rintro e w' ⟨rfl, rfl⟩)
  go_ret2
  exact ⟨rfl, rfl⟩

theorem Store_yes (bm bw : Nat) (ms : List Int) (i : Nat) (v : Int) (w : World) (h : MemAt w bm bw ms) (hi : i < ms.length) :
    Calls Try.prog 51 #[.pointer (some ⟨bm, 0, none⟩), .int .u64 i, .int .u32 v] w fun e w' => e = .returned (.int .i64 0) ∧ w.setCell ⟨bw, i, none⟩ (.int .u32 v) = w' := by
  have h1 : w.cell? ⟨bm, 0, none⟩ = some (.slice (some ⟨bw, 0, none⟩) ms.length ms.length) := h.hm.cell 0
  have h2 : ms.length ≤ 65536 := h.len
  have h3 : w.cell? ⟨bw, i, none⟩ = some (.int .u32 (rd ms i)) := (h.hw.cell i).trans (u32s_get ms i hi)
  have h4 : w.frozen? ⟨bw, i, none⟩ = false := h.hw.frozen i
  go_enter Try.func51, Try.ntmps51
  go_wp2_with (go_at_call 48; refine (there_yes bm bw ms i _ h hi).mono ?_; rintro e w' ⟨rfl, rfl⟩)
  go_ret
  exact ⟨rfl, rfl⟩

theorem load_yes (bm bw : Nat) (ms : List Int) (i : Int) (w : World) (h : MemAt w bm bw ms) (h0 : 0 ≤ i) (hi : i < ms.length) :
    Calls Try.prog 30 #[.pointer (some ⟨bm, 0, none⟩), .int .i64 i] w fun e w' => e = .returned (.int .u32 (rd ms i.toNat)) ∧ w = w' := by
  have h2 : ms.length ≤ 65536 := h.len
  obtain ⟨n, rfl⟩ := Int.eq_ofNat_of_zero_le h0
  have hn : n < ms.length := by omega
  go_enter Try.func30, Try.ntmps30
  go_wp2_with (go_at_call 37; refine (Load_yes bm bw ms n _ h hn).mono ?_; rintro e w' ⟨rfl, rfl⟩)
  go_ret
  exact ⟨rfl, rfl⟩

theorem store_yes (bm bw : Nat) (ms : List Int) (i v : Int) (w : World) (h : MemAt w bm bw ms) (h0 : 0 ≤ i) (hi : i < ms.length) :
    Calls Try.prog 40 #[.pointer (some ⟨bm, 0, none⟩), .int .i64 i, .int .u32 v] w fun e w' => e = .returned (.tuple #[]) ∧ w.setCell ⟨bw, i.toNat, none⟩ (.int .u32 v) = w' := by
  have h2 : ms.length ≤ 65536 := h.len
  obtain ⟨n, rfl⟩ := Int.eq_ofNat_of_zero_le h0
  have hn : n < ms.length := by omega
  go_enter Try.func40, Try.ntmps40
  go_wp2_with (go_at_call 51; refine (Store_yes bm bw ms n v _ h hn).mono ?_; rintro e w' ⟨rfl, rfl⟩)
  go_end0
  exact ⟨rfl, rfl⟩

theorem slot_any (s r n p x : Int) (w : World) (hs0 : 0 ≤ s) (hs : s ≤ 65536) (hx0 : 0 ≤ x) (hx : x ≤ 1) :
    Calls Try.prog 38 #[.agg #[.int .i64 s, .int .i64 r, .int .i64 n, .int .i64 p], .int .u32 x] w fun e w' => e = .returned (.int .i64 (s + 1 + x)) ∧ w.alloc (.cells #[.int .i64 s, .int .i64 r, .int .i64 n, .int .i64 p] 71) = w' := by
  go_enter Try.func38, Try.ntmps38
  go_wp2
  go_ret
  exact ⟨rfl, rfl⟩

theorem buffer_any (s r n p x y : Int) (w : World) (hs0 : 0 ≤ s) (hs : s ≤ 65536) (hn0 : 0 ≤ n) (hn : n ≤ 65536) (hx0 : 0 ≤ x) (hx : x ≤ 1) (hy0 : 0 ≤ y) (hy : y ≤ 1) :
    Calls Try.prog 49 #[.agg #[.int .i64 s, .int .i64 r, .int .i64 n, .int .i64 p], .int .u32 x, .int .u32 y] w fun e w' => e = .returned (.int .i64 (s + 3 + (2 * x + y) * (2 + n))) ∧ w.alloc (.cells #[.int .i64 s, .int .i64 r, .int .i64 n, .int .i64 p] 71) = w' := by
  have k0 : 0 ≤ (2 * x + y) * (2 + n) := Int.mul_nonneg (by omega) (by omega)
  have k1 : (2 * x + y) * (2 + n) ≤ 3 * 65538 := Int.mul_le_mul (by omega) (by omega) (by omega) (by omega)
  go_enter Try.func49, Try.ntmps49
  go_wp2
  go_ret
  exact ⟨rfl, rfl⟩
end Go.Proofs.Ytpkjffiajidfcaa

/- The steps of four's Reader. -/
namespace Go.Proofs.Ytpkjffiajidfcaa
open Go.RowKit

/-- The cells of a Reader. -/
@[go_sem] def rdCells (src rdg wds per : Int) (pair index left stamp : Int) (dv next : Value) : Array Value :=
  #[.int .i64 src, .int .i64 rdg, .int .i64 wds, .int .i64 per, .int .u32 pair, .int .u32 index, .int .i64 left, .int .u32 stamp, dv, next]


theorem Rlatest_any (bm bw b : Nat) (ms : List Int) (src rdg wds per pair index left stamp : Int) (dv next : Value) (now : Int) (w : World)
    (h : MemAt w bm bw ms) (hb : Blk w b (rdCells src rdg wds per pair index left stamp dv next) 80) (n1 : b ≠ bm) (n2 : b ≠ bw)
    (h0 : 0 ≤ src) (h1 : src < ms.length) (hr0 : 0 ≤ rd ms src.toNat) (hr1 : rd ms src.toNat ≤ 4294967295) :
    Calls Try.prog 25 #[.pointer (some ⟨b, 0, none⟩), .pointer (some ⟨bm, 0, none⟩), .int .i64 now] w
      (Steps (.tuple #[.agg (DidV.cells {}), nextF 32 b]) b bm bw (ms) (rdCells src rdg wds per (rd ms src.toNat % 2) index left stamp dv next) 80 w) := by
  have hl := h.len
  have hbc : ∀ j, w.cell? ⟨b, j, none⟩ = (rdCells src rdg wds per pair index left stamp dv next)[j]? := hb.cell
  have hbf : ∀ j, w.frozen? ⟨b, j, none⟩ = false := hb.frozen
  have hlt := hb.lt
  have hlt1 : b < w.heap.size + 1 := by omega
  have hlt2 : b < w.heap.size + 1 + 1 := by omega
  have hlt3 : b < w.heap.size + 1 + 1 + 1 := by omega
  have hlt4 : b < w.heap.size + 1 + 1 + 1 + 1 := by omega
  have hlw := h.hw.lt
  have n2' := n2.symm
  have n1' := n1.symm
  have hmf : ∀ (fn : Fn) (first cap : Array Value) (w : World), (Instr.makeFunc fn first cap).run Try.prog w = .ok (.func fn first cap) w := fun _ _ _ _ => rfl
  have hbit := lsb_eq _ hr0 hr1
  go_enter Try.func25, Try.ntmps25
  go_wp2_with (go_at_call 30; refine (load_yes bm bw ms _ _ (by repeat' with_reducible (first | exact h | apply MemAt.drew | apply MemAt.alloc | refine MemAt.other ?_ n1' n2' _)) (by omega) (by omega)).mono ?_; rintro e w' ⟨rfl, rfl⟩)
  all_goals
    refine ret_did (did := {}) (nx := nextF 32 b) rfl rfl rfl rfl ?_ ⟨rfl, ?_, ?_, ?_⟩
    · apply Exists.intro
      refine And.intro ?_ ?_
      · (repeat' (first | with_reducible (first | apply Blk.drew | (refine Blk.newAt ?_; first | rfl | (simp; done)) | apply Blk.alloc | refine' Blk.other ?_ (by dsimp only; omega) _ | apply Blk.set)))
      · rfl
    · (repeat' with_reducible (first | exact Keeps.refl _ _ | apply Keeps.drew | apply Keeps.alloc | (refine Keeps.setCell ?_ (by simp) _) | (refine Keeps.setCell ?_ (by intro hh; exact absurd hh (by simp)) _)))
    · (repeat' with_reducible (first | exact h | exact h.set _ _ | apply MemAt.drew | apply MemAt.alloc | refine MemAt.other ?_ n1' n2' _ | apply MemAt.set))
    · (repeat' (first | with_reducible (first | exact hb | apply Blk.drew | apply Blk.alloc | refine Blk.other ?_ n2 _) | refine Blk.setTo (vs := rdCells src rdg wds per pair index left stamp dv next) ?_ rfl | exact hb.set _ _))


theorem Rtell_any (bm bw b : Nat) (ms : List Int) (src rdg wds per pair index left stamp : Int) (dv next : Value) (now : Int) (w : World)
    (h : MemAt w bm bw ms) (hb : Blk w b (rdCells src rdg wds per pair index left stamp dv next) 80) (n1 : b ≠ bm) (n2 : b ≠ bw)
    (h0 : 0 ≤ rdg) (h1 : rdg < ms.length) :
    Calls Try.prog 32 #[.pointer (some ⟨b, 0, none⟩), .pointer (some ⟨bm, 0, none⟩), .int .i64 now] w
      (Steps (.tuple #[.agg (DidV.cells {}), nextF 41 b]) b bm bw (ms.set rdg.toNat pair) (rdCells src rdg wds per pair index left stamp dv next) 80 w) := by
  have hl := h.len
  have hbc : ∀ j, w.cell? ⟨b, j, none⟩ = (rdCells src rdg wds per pair index left stamp dv next)[j]? := hb.cell
  have hbf : ∀ j, w.frozen? ⟨b, j, none⟩ = false := hb.frozen
  have hlt := hb.lt
  have hlt1 : b < w.heap.size + 1 := by omega
  have hlt2 : b < w.heap.size + 1 + 1 := by omega
  have hlt3 : b < w.heap.size + 1 + 1 + 1 := by omega
  have hlt4 : b < w.heap.size + 1 + 1 + 1 + 1 := by omega
  have hlw := h.hw.lt
  have n2' := n2.symm
  have n1' := n1.symm
  have hmf : ∀ (fn : Fn) (first cap : Array Value) (w : World), (Instr.makeFunc fn first cap).run Try.prog w = .ok (.func fn first cap) w := fun _ _ _ _ => rfl
  go_enter Try.func32, Try.ntmps32
  go_wp2_with fail
  go_region_held3 (fun w' => (∀ j, w'.cell? ⟨b, j, none⟩ = (rdCells src rdg wds per pair index left stamp dv next)[j]?)) (first | (refine Blk.cell (t := 80) ?_; (repeat' with_reducible (first | exact hb | apply Blk.drew | apply Blk.alloc | refine Blk.other ?_ n2 _))))
    (first | (go_at_call 40; refine (store_yes bm bw ms _ _ _ (by repeat' with_reducible (first | exact h | apply MemAt.drew | apply MemAt.alloc | refine MemAt.other ?_ n1' n2' _)) (by omega) (by omega)).mono ?_; rintro e w' ⟨rfl, rfl⟩))
  go_wp2
  all_goals
    refine ret_did (did := {}) (nx := nextF 41 b) rfl rfl rfl rfl ?_ ⟨rfl, ?_, ?_, ?_⟩
    · apply Exists.intro
      refine And.intro ?_ ?_
      · (repeat' (first | with_reducible (first | apply Blk.drew | (refine Blk.newAt ?_; first | rfl | (simp; done)) | apply Blk.alloc | refine' Blk.other ?_ (by dsimp only; omega) _ | apply Blk.set)))
      · rfl
    · (repeat' with_reducible (first | exact Keeps.refl _ _ | apply Keeps.drew | apply Keeps.alloc | (refine Keeps.setCell ?_ (by simp) _) | (refine Keeps.setCell ?_ (by intro hh; exact absurd hh (by simp)) _)))
    · (repeat' with_reducible (first | exact h | exact h.set _ _ | apply MemAt.drew | apply MemAt.alloc | refine MemAt.other ?_ n1' n2' _ | apply MemAt.set))
    · (repeat' (first | with_reducible (first | exact hb | apply Blk.drew | apply Blk.alloc | refine Blk.other ?_ n2 _) | refine Blk.setTo (vs := rdCells src rdg wds per pair index left stamp dv next) ?_ rfl | exact hb.set _ _))


theorem Rnewer_any (bm bw b : Nat) (ms : List Int) (src rdg wds per pair index left stamp : Int) (dv next : Value) (now : Int) (w : World)
    (h : MemAt w bm bw ms) (hb : Blk w b (rdCells src rdg wds per pair index left stamp dv next) 80) (n1 : b ≠ bm) (n2 : b ≠ bw)
    (hs0 : 0 ≤ src) (hw0 : 0 ≤ wds) (hp0 : 0 ≤ pair) (hp1 : pair ≤ 1) (hin : src + 3 + 4 * (2 + wds) ≤ ms.length) (hr0 : 0 ≤ rd ms (src + 1 + pair).toNat) (hr1 : rd ms (src + 1 + pair).toNat ≤ 4294967295) :
    Calls Try.prog 41 #[.pointer (some ⟨b, 0, none⟩), .pointer (some ⟨bm, 0, none⟩), .int .i64 now] w
      (Steps (.tuple #[.agg (DidV.cells {}), nextF 52 b]) b bm bw (ms) (rdCells src rdg wds per pair (rd ms (src + 1 + pair).toNat % 2) left stamp dv next) 80 w) := by
  have hl := h.len
  have hbc : ∀ j, w.cell? ⟨b, j, none⟩ = (rdCells src rdg wds per pair index left stamp dv next)[j]? := hb.cell
  have hbf : ∀ j, w.frozen? ⟨b, j, none⟩ = false := hb.frozen
  have hlt := hb.lt
  have hlt1 : b < w.heap.size + 1 := by omega
  have hlt2 : b < w.heap.size + 1 + 1 := by omega
  have hlt3 : b < w.heap.size + 1 + 1 + 1 := by omega
  have hlt4 : b < w.heap.size + 1 + 1 + 1 + 1 := by omega
  have hlw := h.hw.lt
  have n2' := n2.symm
  have n1' := n1.symm
  have hmf : ∀ (fn : Fn) (first cap : Array Value) (w : World), (Instr.makeFunc fn first cap).run Try.prog w = .ok (.func fn first cap) w := fun _ _ _ _ => rfl
  have hbit := lsb_eq _ hr0 hr1
  go_enter Try.func41, Try.ntmps41
  go_wp2_with fail
  go_region_held3 (fun w' => (∀ j, j ≠ 5 → w'.cell? ⟨b, j, none⟩ = (rdCells src rdg wds per pair index left stamp dv next)[j]?)) (first | (refine fun j _ => Blk.cell (t := 80) ?_ j; (repeat' with_reducible (first | exact hb | apply Blk.drew | apply Blk.alloc | refine Blk.other ?_ n2 _)); done) | (refine fun j hj => Blk.cell_set (t := 80) (i := 5) ?_ j hj; (repeat' with_reducible (first | exact ⟨_, hb.set _ _⟩ | apply Blk.drewEx | apply Blk.allocEx)); done))
    (first | (go_at_call 38; refine (slot_any src rdg wds per pair _ hs0 (by omega) hp0 hp1).mono ?_; rintro e w' ⟨rfl, rfl⟩) | (go_at_call 30; refine (load_yes bm bw ms _ _ (by repeat' with_reducible (first | exact h | apply MemAt.drew | apply MemAt.alloc | refine MemAt.other ?_ n1' n2' _)) (by omega) (by omega)).mono ?_; rintro e w' ⟨rfl, rfl⟩))
  go_wp2
  all_goals
    refine ret_did (did := {}) (nx := nextF 52 b) rfl rfl rfl rfl ?_ ⟨rfl, ?_, ?_, ?_⟩
    · apply Exists.intro
      refine And.intro ?_ ?_
      · (repeat' (first | with_reducible (first | apply Blk.drew | (refine Blk.newAt ?_; first | rfl | (simp; done)) | apply Blk.alloc | refine' Blk.other ?_ (by dsimp only; omega) _ | apply Blk.set)))
      · rfl
    · (repeat' with_reducible (first | exact Keeps.refl _ _ | apply Keeps.drew | apply Keeps.alloc | (refine Keeps.setCell ?_ (by simp) _) | (refine Keeps.setCell ?_ (by intro hh; exact absurd hh (by simp)) _)))
    · (repeat' with_reducible (first | exact h | exact h.set _ _ | apply MemAt.drew | apply MemAt.alloc | refine MemAt.other ?_ n1' n2' _ | apply MemAt.set))
    · (repeat' (first | with_reducible (first | exact hb | apply Blk.drew | apply Blk.alloc | refine Blk.other ?_ n2 _) | refine Blk.setTo (vs := rdCells src rdg wds per pair index left stamp dv next) ?_ rfl | exact hb.set _ _))


theorem Rlength_none (bm bw b : Nat) (ms : List Int) (src rdg wds per pair index left stamp : Int) (dv next : Value) (now : Int) (w : World)
    (h : MemAt w bm bw ms) (hb : Blk w b (rdCells src rdg wds per pair index left stamp dv next) 80) (n1 : b ≠ bm) (n2 : b ≠ bw)
    (hs0 : 0 ≤ src) (hw0 : 0 ≤ wds) (hp0 : 0 ≤ pair) (hp1 : pair ≤ 1) (hi0 : 0 ≤ index) (hi1 : index ≤ 1) (hin : src + 3 + 4 * (2 + wds) ≤ ms.length) (hx : rd ms (src + 3 + (2 * pair + index) * (2 + wds)).toNat = 0) :
    Calls Try.prog 52 #[.pointer (some ⟨b, 0, none⟩), .pointer (some ⟨bm, 0, none⟩), .int .i64 now] w
      (Steps (.tuple #[.agg (DidV.cells { done := true, code := 1, buffer := 1 + (2 * pair + index) }), .nilFunc]) b bm bw (ms) (rdCells src rdg wds per pair index left stamp dv next) 80 w) := by
  have hl := h.len
  have hbc : ∀ j, w.cell? ⟨b, j, none⟩ = (rdCells src rdg wds per pair index left stamp dv next)[j]? := hb.cell
  have hbf : ∀ j, w.frozen? ⟨b, j, none⟩ = false := hb.frozen
  have hlt := hb.lt
  have hlt1 : b < w.heap.size + 1 := by omega
  have hlt2 : b < w.heap.size + 1 + 1 := by omega
  have hlt3 : b < w.heap.size + 1 + 1 + 1 := by omega
  have hlt4 : b < w.heap.size + 1 + 1 + 1 + 1 := by omega
  have hlw := h.hw.lt
  have n2' := n2.symm
  have n1' := n1.symm
  have hmf : ∀ (fn : Fn) (first cap : Array Value) (w : World), (Instr.makeFunc fn first cap).run Try.prog w = .ok (.func fn first cap) w := fun _ _ _ _ => rfl
  have k0 : 0 ≤ (2 * pair + index) * (2 + wds) := Int.mul_nonneg (by omega) (by omega)
  have k1 : (2 * pair + index) * (2 + wds) ≤ 3 * (2 + wds) := Int.mul_le_mul_of_nonneg_right (by omega) (by omega)
  have hw1 : IntKind.u32.wrap (2 * pair) = 2 * pair := wrap_u32 (by omega) (by omega)
  have hw2 : IntKind.u32.wrap (2 * pair + index) = 2 * pair + index := wrap_u32 (by omega) (by omega)
  have hw3 : IntKind.i64.wrap (2 * pair + index) = 2 * pair + index := wrap_i64 (by omega) (by omega)
  have hw4 : IntKind.i64.wrap (1 + (2 * pair + index)) = 1 + (2 * pair + index) := wrap_i64 (by omega) (by omega)
  go_enter Try.func52, Try.ntmps52
  go_wp2_with fail
  go_region_held3 (fun w' => (∀ j, w'.cell? ⟨b, j, none⟩ = (rdCells src rdg wds per pair index left stamp dv next)[j]?)) (first | (refine Blk.cell (t := 80) ?_; (repeat' with_reducible (first | exact hb | apply Blk.drew | apply Blk.alloc | refine Blk.other ?_ n2 _))))
    (first | (go_at_call 49; refine (buffer_any src rdg wds per pair index _ hs0 (by omega) hw0 (by omega) hp0 hp1 hi0 hi1).mono ?_; rintro e w' ⟨rfl, rfl⟩) | (go_at_call 30; refine (load_yes bm bw ms _ _ (by repeat' with_reducible (first | exact h | apply MemAt.drew | apply MemAt.alloc | refine MemAt.other ?_ n1' n2' _)) (by omega) (by omega)).mono ?_; rintro e w' ⟨rfl, rfl⟩))
  go_wp2_with fail
  go_region_held3 (fun w' => (∀ j, w'.cell? ⟨b, j, none⟩ = (rdCells src rdg wds per pair index left stamp dv next)[j]?)) (first | (refine Blk.cell (t := 80) ?_; (repeat' with_reducible (first | exact hb | apply Blk.drew | apply Blk.alloc | refine Blk.other ?_ n2 _))))
    (fail)
  go_wp2
  all_goals
    refine ret_did (did := { done := true, code := 1, buffer := 1 + (2 * pair + index) }) (nx := .nilFunc) rfl rfl rfl rfl ?_ ⟨rfl, ?_, ?_, ?_⟩
    · apply Exists.intro
      refine And.intro ?_ ?_
      · (repeat' (first | with_reducible (first | apply Blk.drew | (refine Blk.newAt ?_; first | rfl | (simp; done)) | apply Blk.alloc | refine' Blk.other ?_ (by dsimp only; omega) _ | apply Blk.set)))
      · rfl
    · (repeat' with_reducible (first | exact Keeps.refl _ _ | apply Keeps.drew | apply Keeps.alloc | (refine Keeps.setCell ?_ (by simp) _) | (refine Keeps.setCell ?_ (by intro hh; exact absurd hh (by simp)) _)))
    · (repeat' with_reducible (first | exact h | exact h.set _ _ | apply MemAt.drew | apply MemAt.alloc | refine MemAt.other ?_ n1' n2' _ | apply MemAt.set))
    · (repeat' (first | with_reducible (first | exact hb | apply Blk.drew | apply Blk.alloc | refine Blk.other ?_ n2 _) | refine Blk.setTo (vs := rdCells src rdg wds per pair index left stamp dv next) ?_ rfl | exact hb.set _ _))


theorem Rlength_some (bm bw b : Nat) (ms : List Int) (src rdg wds per pair index left stamp : Int) (dv next : Value) (now : Int) (w : World)
    (h : MemAt w bm bw ms) (hb : Blk w b (rdCells src rdg wds per pair index left stamp dv next) 80) (n1 : b ≠ bm) (n2 : b ≠ bw)
    (hs0 : 0 ≤ src) (hw0 : 0 ≤ wds) (hp0 : 0 ≤ pair) (hp1 : pair ≤ 1) (hi0 : 0 ≤ index) (hi1 : index ≤ 1) (hin : src + 3 + 4 * (2 + wds) ≤ ms.length) (hws : wds ≤ 65536) (n : Int) (hle : n ≤ wds) (hx : rd ms (src + 3 + (2 * pair + index) * (2 + wds)).toNat = n) (hx0 : 0 < n) (hx1 : n ≤ 4294967295) :
    Calls Try.prog 52 #[.pointer (some ⟨b, 0, none⟩), .pointer (some ⟨bm, 0, none⟩), .int .i64 now] w
      (Steps (.tuple #[.agg (DidV.cells { buffer := 1 + (2 * pair + index) }), nextF 57 b]) b bm bw (ms) (rdCells src rdg wds per pair index n stamp dv next) 80 w) := by
  have hl := h.len
  have hbc : ∀ j, w.cell? ⟨b, j, none⟩ = (rdCells src rdg wds per pair index left stamp dv next)[j]? := hb.cell
  have hbf : ∀ j, w.frozen? ⟨b, j, none⟩ = false := hb.frozen
  have hlt := hb.lt
  have hlt1 : b < w.heap.size + 1 := by omega
  have hlt2 : b < w.heap.size + 1 + 1 := by omega
  have hlt3 : b < w.heap.size + 1 + 1 + 1 := by omega
  have hlt4 : b < w.heap.size + 1 + 1 + 1 + 1 := by omega
  have hlw := h.hw.lt
  have n2' := n2.symm
  have n1' := n1.symm
  have hmf : ∀ (fn : Fn) (first cap : Array Value) (w : World), (Instr.makeFunc fn first cap).run Try.prog w = .ok (.func fn first cap) w := fun _ _ _ _ => rfl
  have k0 : 0 ≤ (2 * pair + index) * (2 + wds) := Int.mul_nonneg (by omega) (by omega)
  have k1 : (2 * pair + index) * (2 + wds) ≤ 3 * (2 + wds) := Int.mul_le_mul_of_nonneg_right (by omega) (by omega)
  have hw1 : IntKind.u32.wrap (2 * pair) = 2 * pair := wrap_u32 (by omega) (by omega)
  have hw2 : IntKind.u32.wrap (2 * pair + index) = 2 * pair + index := wrap_u32 (by omega) (by omega)
  have hw3 : IntKind.i64.wrap (2 * pair + index) = 2 * pair + index := wrap_i64 (by omega) (by omega)
  have hw4 : IntKind.i64.wrap (1 + (2 * pair + index)) = 1 + (2 * pair + index) := wrap_i64 (by omega) (by omega)
  have hww : IntKind.u32.wrap wds = wds := wrap_u32 (by omega) (by omega)
  have hne : (n == 0) = false := by simp; omega
  go_enter Try.func52, Try.ntmps52
  go_wp2_with fail
  go_region_held3 (fun w' => (∀ j, w'.cell? ⟨b, j, none⟩ = (rdCells src rdg wds per pair index left stamp dv next)[j]?)) (first | (refine Blk.cell (t := 80) ?_; (repeat' with_reducible (first | exact hb | apply Blk.drew | apply Blk.alloc | refine Blk.other ?_ n2 _))))
    (first | (go_at_call 49; refine (buffer_any src rdg wds per pair index _ hs0 (by omega) hw0 (by omega) hp0 hp1 hi0 hi1).mono ?_; rintro e w' ⟨rfl, rfl⟩) | (go_at_call 30; refine (load_yes bm bw ms _ _ (by repeat' with_reducible (first | exact h | apply MemAt.drew | apply MemAt.alloc | refine MemAt.other ?_ n1' n2' _)) (by omega) (by omega)).mono ?_; rintro e w' ⟨rfl, rfl⟩))
  go_wp2_with fail
  go_region_held3 (fun w' => (∀ j, w'.cell? ⟨b, j, none⟩ = (rdCells src rdg wds per pair index left stamp dv next)[j]?)) (first | (refine Blk.cell (t := 80) ?_; (repeat' with_reducible (first | exact hb | apply Blk.drew | apply Blk.alloc | refine Blk.other ?_ n2 _))))
    (fail)
  go_wp2
  all_goals
    refine ret_did (did := { buffer := 1 + (2 * pair + index) }) (nx := nextF 57 b) rfl rfl rfl rfl ?_ ⟨rfl, ?_, ?_, ?_⟩
    · apply Exists.intro
      refine And.intro ?_ ?_
      · (repeat' (first | with_reducible (first | apply Blk.drew | (refine Blk.newAt ?_; first | rfl | (simp; done)) | apply Blk.alloc | refine' Blk.other ?_ (by dsimp only; omega) _ | apply Blk.set)))
      · rfl
    · (repeat' with_reducible (first | exact Keeps.refl _ _ | apply Keeps.drew | apply Keeps.alloc | (refine Keeps.setCell ?_ (by simp) _) | (refine Keeps.setCell ?_ (by intro hh; exact absurd hh (by simp)) _)))
    · (repeat' with_reducible (first | exact h | exact h.set _ _ | apply MemAt.drew | apply MemAt.alloc | refine MemAt.other ?_ n1' n2' _ | apply MemAt.set))
    · (repeat' (first | with_reducible (first | exact hb | apply Blk.drew | apply Blk.alloc | refine Blk.other ?_ n2 _) | refine Blk.setTo (vs := rdCells src rdg wds per pair index left stamp dv next) ?_ rfl | exact hb.set _ _))


theorem Rlength_much (bm bw b : Nat) (ms : List Int) (src rdg wds per pair index left stamp : Int) (dv next : Value) (now : Int) (w : World)
    (h : MemAt w bm bw ms) (hb : Blk w b (rdCells src rdg wds per pair index left stamp dv next) 80) (n1 : b ≠ bm) (n2 : b ≠ bw)
    (hs0 : 0 ≤ src) (hw0 : 0 ≤ wds) (hp0 : 0 ≤ pair) (hp1 : pair ≤ 1) (hi0 : 0 ≤ index) (hi1 : index ≤ 1) (hin : src + 3 + 4 * (2 + wds) ≤ ms.length) (hws : wds ≤ 65536) (n : Int) (hle : wds < n) (hx : rd ms (src + 3 + (2 * pair + index) * (2 + wds)).toNat = n) (hx0 : 0 < n) (hx1 : n ≤ 4294967295) :
    Calls Try.prog 52 #[.pointer (some ⟨b, 0, none⟩), .pointer (some ⟨bm, 0, none⟩), .int .i64 now] w
      (Steps (.tuple #[.agg (DidV.cells { buffer := 1 + (2 * pair + index) }), nextF 57 b]) b bm bw (ms) (rdCells src rdg wds per pair index wds stamp dv next) 80 w) := by
  have hl := h.len
  have hbc : ∀ j, w.cell? ⟨b, j, none⟩ = (rdCells src rdg wds per pair index left stamp dv next)[j]? := hb.cell
  have hbf : ∀ j, w.frozen? ⟨b, j, none⟩ = false := hb.frozen
  have hlt := hb.lt
  have hlt1 : b < w.heap.size + 1 := by omega
  have hlt2 : b < w.heap.size + 1 + 1 := by omega
  have hlt3 : b < w.heap.size + 1 + 1 + 1 := by omega
  have hlt4 : b < w.heap.size + 1 + 1 + 1 + 1 := by omega
  have hlw := h.hw.lt
  have n2' := n2.symm
  have n1' := n1.symm
  have hmf : ∀ (fn : Fn) (first cap : Array Value) (w : World), (Instr.makeFunc fn first cap).run Try.prog w = .ok (.func fn first cap) w := fun _ _ _ _ => rfl
  have k0 : 0 ≤ (2 * pair + index) * (2 + wds) := Int.mul_nonneg (by omega) (by omega)
  have k1 : (2 * pair + index) * (2 + wds) ≤ 3 * (2 + wds) := Int.mul_le_mul_of_nonneg_right (by omega) (by omega)
  have hw1 : IntKind.u32.wrap (2 * pair) = 2 * pair := wrap_u32 (by omega) (by omega)
  have hw2 : IntKind.u32.wrap (2 * pair + index) = 2 * pair + index := wrap_u32 (by omega) (by omega)
  have hw3 : IntKind.i64.wrap (2 * pair + index) = 2 * pair + index := wrap_i64 (by omega) (by omega)
  have hw4 : IntKind.i64.wrap (1 + (2 * pair + index)) = 1 + (2 * pair + index) := wrap_i64 (by omega) (by omega)
  have hww : IntKind.u32.wrap wds = wds := wrap_u32 (by omega) (by omega)
  have hne : (n == 0) = false := by simp; omega
  go_enter Try.func52, Try.ntmps52
  go_wp2_with fail
  go_region_held3 (fun w' => (∀ j, w'.cell? ⟨b, j, none⟩ = (rdCells src rdg wds per pair index left stamp dv next)[j]?)) (first | (refine Blk.cell (t := 80) ?_; (repeat' with_reducible (first | exact hb | apply Blk.drew | apply Blk.alloc | refine Blk.other ?_ n2 _))))
    (first | (go_at_call 49; refine (buffer_any src rdg wds per pair index _ hs0 (by omega) hw0 (by omega) hp0 hp1 hi0 hi1).mono ?_; rintro e w' ⟨rfl, rfl⟩) | (go_at_call 30; refine (load_yes bm bw ms _ _ (by repeat' with_reducible (first | exact h | apply MemAt.drew | apply MemAt.alloc | refine MemAt.other ?_ n1' n2' _)) (by omega) (by omega)).mono ?_; rintro e w' ⟨rfl, rfl⟩))
  go_wp2_with fail
  go_region_held3 (fun w' => (∀ j, w'.cell? ⟨b, j, none⟩ = (rdCells src rdg wds per pair index left stamp dv next)[j]?)) (first | (refine Blk.cell (t := 80) ?_; (repeat' with_reducible (first | exact hb | apply Blk.drew | apply Blk.alloc | refine Blk.other ?_ n2 _))))
    (fail)
  go_wp2
  all_goals
    refine ret_did (did := { buffer := 1 + (2 * pair + index) }) (nx := nextF 57 b) rfl rfl rfl rfl ?_ ⟨rfl, ?_, ?_, ?_⟩
    · apply Exists.intro
      refine And.intro ?_ ?_
      · (repeat' (first | with_reducible (first | apply Blk.drew | (refine Blk.newAt ?_; first | rfl | (simp; done)) | apply Blk.alloc | refine' Blk.other ?_ (by dsimp only; omega) _ | apply Blk.set)))
      · rfl
    · (repeat' with_reducible (first | exact Keeps.refl _ _ | apply Keeps.drew | apply Keeps.alloc | (refine Keeps.setCell ?_ (by simp) _) | (refine Keeps.setCell ?_ (by intro hh; exact absurd hh (by simp)) _)))
    · (repeat' with_reducible (first | exact h | exact h.set _ _ | apply MemAt.drew | apply MemAt.alloc | refine MemAt.other ?_ n1' n2' _ | apply MemAt.set))
    · (repeat' (first | with_reducible (first | exact hb | apply Blk.drew | apply Blk.alloc | refine Blk.other ?_ n2 _) | refine Blk.setTo (vs := rdCells src rdg wds per pair index left stamp dv next) ?_ rfl | exact hb.set _ _))


theorem Rwhen_any (bm bw b : Nat) (ms : List Int) (src rdg wds per pair index left stamp : Int) (dv next : Value) (now : Int) (w : World)
    (h : MemAt w bm bw ms) (hb : Blk w b (rdCells src rdg wds per pair index left stamp dv next) 80) (n1 : b ≠ bm) (n2 : b ≠ bw)
    (hs0 : 0 ≤ src) (hw0 : 0 ≤ wds) (hp0 : 0 ≤ pair) (hp1 : pair ≤ 1) (hi0 : 0 ≤ index) (hi1 : index ≤ 1) (hin : src + 3 + 4 * (2 + wds) ≤ ms.length) :
    Calls Try.prog 57 #[.pointer (some ⟨b, 0, none⟩), .pointer (some ⟨bm, 0, none⟩), .int .i64 now] w
      (Steps (.tuple #[.agg (DidV.cells {}), nextF 60 b]) b bm bw (ms) (rdCells src rdg wds per pair index left (rd ms (src + 3 + (2 * pair + index) * (2 + wds) + 1).toNat) dv next) 80 w) := by
  have hl := h.len
  have hbc : ∀ j, w.cell? ⟨b, j, none⟩ = (rdCells src rdg wds per pair index left stamp dv next)[j]? := hb.cell
  have hbf : ∀ j, w.frozen? ⟨b, j, none⟩ = false := hb.frozen
  have hlt := hb.lt
  have hlt1 : b < w.heap.size + 1 := by omega
  have hlt2 : b < w.heap.size + 1 + 1 := by omega
  have hlt3 : b < w.heap.size + 1 + 1 + 1 := by omega
  have hlt4 : b < w.heap.size + 1 + 1 + 1 + 1 := by omega
  have hlw := h.hw.lt
  have n2' := n2.symm
  have n1' := n1.symm
  have hmf : ∀ (fn : Fn) (first cap : Array Value) (w : World), (Instr.makeFunc fn first cap).run Try.prog w = .ok (.func fn first cap) w := fun _ _ _ _ => rfl
  have k0 : 0 ≤ (2 * pair + index) * (2 + wds) := Int.mul_nonneg (by omega) (by omega)
  have k1 : (2 * pair + index) * (2 + wds) ≤ 3 * (2 + wds) := Int.mul_le_mul_of_nonneg_right (by omega) (by omega)
  have hw1 : IntKind.i64.wrap (src + 3 + (2 * pair + index) * (2 + wds) + 1) = src + 3 + (2 * pair + index) * (2 + wds) + 1 := wrap_i64 (by omega) (by omega)
  go_enter Try.func57, Try.ntmps57
  go_wp2_with fail
  go_region_held3 (fun w' => (∀ j, j ≠ 7 → w'.cell? ⟨b, j, none⟩ = (rdCells src rdg wds per pair index left stamp dv next)[j]?)) (first | (refine fun j _ => Blk.cell (t := 80) ?_ j; (repeat' with_reducible (first | exact hb | apply Blk.drew | apply Blk.alloc | refine Blk.other ?_ n2 _)); done) | (refine fun j hj => Blk.cell_set (t := 80) (i := 7) ?_ j hj; (repeat' with_reducible (first | exact ⟨_, hb.set _ _⟩ | apply Blk.drewEx | apply Blk.allocEx)); done))
    (first | (go_at_call 49; refine (buffer_any src rdg wds per pair index _ hs0 (by omega) hw0 (by omega) hp0 hp1 hi0 hi1).mono ?_; rintro e w' ⟨rfl, rfl⟩) | (go_at_call 30; refine (load_yes bm bw ms _ _ (by repeat' with_reducible (first | exact h | apply MemAt.drew | apply MemAt.alloc | refine MemAt.other ?_ n1' n2' _)) (by omega) (by omega)).mono ?_; rintro e w' ⟨rfl, rfl⟩))
  go_wp2
  all_goals
    refine ret_did (did := {}) (nx := nextF 60 b) rfl rfl rfl rfl ?_ ⟨rfl, ?_, ?_, ?_⟩
    · apply Exists.intro
      refine And.intro ?_ ?_
      · (repeat' (first | with_reducible (first | apply Blk.drew | (refine Blk.newAt ?_; first | rfl | (simp; done)) | apply Blk.alloc | refine' Blk.other ?_ (by dsimp only; omega) _ | apply Blk.set)))
      · rfl
    · (repeat' with_reducible (first | exact Keeps.refl _ _ | apply Keeps.drew | apply Keeps.alloc | (refine Keeps.setCell ?_ (by simp) _) | (refine Keeps.setCell ?_ (by intro hh; exact absurd hh (by simp)) _)))
    · (repeat' with_reducible (first | exact h | exact h.set _ _ | apply MemAt.drew | apply MemAt.alloc | refine MemAt.other ?_ n1' n2' _ | apply MemAt.set))
    · (repeat' (first | with_reducible (first | exact hb | apply Blk.drew | apply Blk.alloc | refine Blk.other ?_ n2 _) | refine Blk.setTo (vs := rdCells src rdg wds per pair index left stamp dv next) ?_ rfl | exact hb.set _ _))

end Go.Proofs.Ytpkjffiajidfcaa

/- A region that draws its order, whose one last operation (number t) waits for all others and may write what the others load: a condition on the world is then asked behind every operation but that one. -/
namespace Go.Proofs.Ytpkjffiajidfcaa
open Go

section
variable {P : Program} {ops : Array Oper} {Q : Exit → Act → World → Prop} {S : World → Prop} {t : Nat}

/-- Whatever order is picked; behind every operation but number t the condition holds. -/
def AnyT (P : Program) (ops : Array Oper) (Q : Exit → Act → World → Prop) (S : World → Prop) (t : Nat) : Nat → Array Bool → Act → World → Prop
  | 0, listed, a, w => Region.ready .any ops listed = [] ∧ Q .normal a w
  | n + 1, listed, a, w => (Region.ready .any ops listed = [] → Q .normal a w) ∧
      ∀ i, i ∈ Region.ready .any ops listed → wpOp P ops Q i (fun a' w' => (i ≠ t → S w') ∧ AnyT P ops Q S t n (listed.setIfInBounds i true) a' w') a w

theorem AnyT.any : ∀ (n : Nat) (listed : Array Bool) (a : Act) (w : World), AnyT P ops Q S t n listed a w → wpAny P .any ops Q n listed a w
  | 0, _, _, _, h => h
  | n + 1, listed, _, _, h => ⟨h.1, fun i hi => wpOp_mono (fun a' w' h' => AnyT.any n (listed.setIfInBounds i true) a' w' h'.2) (h.2 i hi)⟩

/-- Number t waits for number i. -/
def waitsOn (ops : Array Oper) (t i : Nat) : Bool := ((ops[t]?).map fun o => o.after.any fun e => Region.binds .any e && e.on == i).getD false

theorem ready_unlisted {j : Nat} {listed : Array Bool} (h : j ∈ Region.ready .any ops listed) : listed.getD j true = false := (mem_ready.1 h).1

theorem not_last {i j : Nat} {listed : Array Bool} (hw : waitsOn ops t i = true) (hi : listed.getD i true = false) (hj : j ∈ Region.ready .any ops listed) : j ≠ t := by
  intro e
  subst e
  obtain ⟨_, o, ho, hall⟩ := mem_ready.1 hj
  simp only [waitsOn, ho, Option.map_some, Option.getD_some] at hw
  obtain ⟨e, he, hb⟩ := Array.any_eq_true'.1 hw
  simp only [Bool.and_eq_true, beq_iff_eq] at hb
  have h1 := hall e he hb.1
  rw [hb.2] at h1
  rw [Array.getD_eq_getD_getElem?] at hi h1
  cases hx : listed[i]? with
  | none => rw [hx] at h1; cases h1
  | some x => rw [hx] at hi h1; simp at hi h1; rw [hi] at h1; cases h1

theorem AnyT.first {i : Nat} {oi : Oper} {v : Value} (hi : ops[i]? = some oi) (hsel : Region.noSelect ops = true) (hw : waitsOn ops t i = true)
    (hQ : ∀ c a w, Q (.panic c) (a.put oi.dst v) w → Q (.panic c) a w) :
    ∀ (n : Nat) (listed : Array Bool) (a : Act) (w : World),
      (∀ j oj, ops[j]? = some oj → j ≠ i → listed.getD j true = false → (∀ e ∈ oj.after, Region.binds .any e = true → e.on ≠ i) → oi.apart ops oj = true) →
      i ∈ Region.ready .any ops listed → YieldsIf P ops S oi v a → S w →
      AnyT P ops Q S t n (listed.setIfInBounds i true) (a.put oi.dst v) w → AnyT P ops Q S t (n + 1) listed a w := by
  intro n
  induction n with
  | zero =>
    intro listed a w _ hr hy hS H
    refine ⟨(fun h => by rw [h] at hr; cases hr), fun j hj => ?_⟩
    by_cases e : j = i
    · subst e
      exact hy.wpOp hi hS ⟨fun _ => hS, H⟩
    · have hj' := ready_mono hj e
      rw [H.1] at hj'
      cases hj'
  | succ n ih =>
    intro listed a w hfree hr hy hS H
    refine ⟨(fun h => by rw [h] at hr; cases hr), fun j hj => ?_⟩
    by_cases e : j = i
    · subst e
      exact hy.wpOp hi hS ⟨fun _ => hS, H⟩
    · have hjt : j ≠ t := not_last hw (ready_unlisted hr) hj
      obtain ⟨hju, oj, hoj, hall⟩ := mem_ready.1 hj
      have hno : ∀ e ∈ oj.after, Region.binds .any e = true → e.on ≠ i := by
        intro e he hb heq
        have h1 := hall e he hb
        have h0 := ready_unlisted hr
        rw [heq] at h1
        rw [Array.getD_eq_getD_getElem?] at h0 h1
        cases hx : listed[i]? with
        | none => rw [hx] at h1; cases h1
        | some x => rw [hx] at h0 h1; simp at h0 h1; rw [h0] at h1; cases h1
      have hs := Region.noSelect_spec hsel
      have h2 := wpOp_putIf (S := S) hoj (hfree j oj hoj e hju hno) (fun cs b => hs i oi cs b hi) (fun cs b => hs j oj cs b hoj) hQ hy (H.2 j (ready_mono hj e))
      refine wpOp_mono (fun a' w' h3 => ?_) h2
      obtain ⟨hy', hS', hrest⟩ := h3
      refine ⟨hS', ih (listed.setIfInBounds j true) a' w' ?_ (ready_mono hr (Ne.symm e)) hy' (hS' hjt) ?_⟩
      · intro k ok hk hki hun hnk
        refine hfree k ok hk hki ?_ hnk
        by_cases hjk : j = k
        · subst hjk; exact hju
        · rw [getD_set_ne true hjk] at hun; exact hun
      · rw [Array.setIfInBounds_comm _ _ e]
        exact hrest

/-- Take number i first: it yields its value in every world that meets the condition. -/
theorem AnyT.take {i : Nat} {oi : Oper} {v : Value} {n : Nat} {listed : Array Bool} {a : Act} {w : World} (hi : ops[i]? = some oi)
    (hc : (Region.noSelect ops && waitsOn ops t i && Region.free .any ops listed i && (Region.ready .any ops listed).contains i) = true)
    (hQ : ∀ c a w, Q (.panic c) (a.put oi.dst v) w → Q (.panic c) a w) (hS : S w) (hy : YieldsIf P ops S oi v a)
    (h : AnyT P ops Q S t n (listed.setIfInBounds i true) (a.put oi.dst v) w) : AnyT P ops Q S t (n + 1) listed a w := by
  simp only [Bool.and_eq_true] at hc
  exact AnyT.first hi hc.1.1.1 hc.1.1.2 hQ n listed a w (Region.free_spec hi hc.1.2) (by simpa using hc.2) hy hS h

/-- The one operation that may come up comes up. -/
theorem AnyT.step {i : Nat} {oi : Oper} {n : Nat} {listed : Array Bool} {a : Act} {w : World} (hi : ops[i]? = some oi) (hg : oi.guard = none)
    (hr : Region.ready .any ops listed = [i])
    (h : ∀ K : Act → World → Prop, Shut (∀ a w, S w → (S w → AnyT P ops Q S t n (listed.setIfInBounds i true) a w) → K a w) → oi.wp P a w K Q) : AnyT P ops Q S t (n + 1) listed a w := by
  refine ⟨fun h0 => (by rw [hr] at h0; cases h0), fun j hj => ?_⟩
  rw [hr] at hj
  obtain rfl : j = i := by simpa using hj
  refine wpOp_step hi (fun K' hK => ?_)
  rw [if_pos (by simp [Region.wanted, hg])]
  exact h K' (fun a w h1 h2 => hK a w ⟨fun _ => h1, h2 h1⟩)

theorem AnyT.done {listed : Array Bool} {a : Act} {w : World} (hr : Region.ready .any ops listed = []) (h : Q .normal a w) : ∀ n, AnyT P ops Q S t n listed a w
  | 0 => ⟨hr, h⟩
  | _ + 1 => ⟨fun _ => h, by rw [hr]; simp⟩

/-- The last operation comes up. -/
theorem AnyT.last {i : Nat} {oi : Oper} {n : Nat} {listed : Array Bool} {a : Act} {w : World} (hi : ops[i]? = some oi) (hg : oi.guard = none) (hit : i = t)
    (hr : Region.ready .any ops listed = [i]) (hr' : Region.ready .any ops (listed.setIfInBounds i true) = [])
    (h : ∀ K : Act → World → Prop, Shut (∀ a w, Q .normal a w → K a w) → oi.wp P a w K Q) : AnyT P ops Q S t (n + 1) listed a w := by
  refine ⟨fun h0 => (by rw [hr] at h0; cases h0), fun j hj => ?_⟩
  rw [hr] at hj
  obtain rfl : j = i := by simpa using hj
  refine wpOp_step hi (fun K' hK => ?_)
  rw [if_pos (by simp [Region.wanted, hg])]
  exact h K' (fun a w h1 => hK a w ⟨fun h => absurd hit h, AnyT.done hr' h1 n⟩)

theorem AnyT.start {id : Nat} {a : Act} {w : World} (t : Nat) (S : World → Prop) (hm : P.follows .mixedOrders = true) (hS : S w.drew)
    (h : S w.drew → AnyT P ops Q S t ops.size (Array.replicate ops.size false) a w.drew) : (Code.region id ops true).wp P Q a w :=
  wp_region_any hm (AnyT.any _ _ _ _ (h hS))
end
end Go.Proofs.Ytpkjffiajidfcaa

/- The word step of four's Reader. -/
namespace Go.Proofs.Ytpkjffiajidfcaa
open Go.RowKit

theorem info_u32 : (Try.prog.info? 41).map (fun i => (i.zero, i.size, i.bytes)) = some (some (.int .u32 0), 1, 4) := by kernel_rfl

/-- What the word step leaves: the data has grown by a word. -/
def StepsA (v : Nat → Nat → Value) (b bm bw : Nat) (ms : List Int) (dv : Value) (n : Nat) (xs : List Value) (vs : Value → Array Value) (t : TypeId) (w : World) (e : Ending) (w' : World) : Prop :=
  ∃ g cap, e = .returned (v g cap) ∧ Keeps (b :: dv.ownBlock.toList) w w' ∧ MemAt w' bm bw ms ∧ Blk w' b (vs (.slice (some ⟨g, 0, none⟩) n cap)) t ∧
    w'.ownsRow 0 41 1 (.slice (some ⟨g, 0, none⟩) n cap) n xs ∧ (dv.ownBlock = some g ∨ w.heap.size ≤ g)


set_option maxRecDepth 100000 in
set_option maxHeartbeats 1000000 in
theorem Rword_more (bm bw b n dc : Nat) (da : Option Addr) (xs : List Value) (ms : List Int) (src rdg wds per pair index left stamp : Int) (next : Value) (now : Int) (w : World)
    (h : MemAt w bm bw ms) (hb : Blk w b (rdCells src rdg wds per pair index left stamp (.slice da n dc) next) 80) (n1 : b ≠ bm) (n2 : b ≠ bw) (hown : w.ownsRow 0 41 1 (.slice da n dc) n xs) (o1 : some b ≠ (Value.slice da n dc).ownBlock) (o2 : some bm ≠ (Value.slice da n dc).ownBlock) (o3 : some bw ≠ (Value.slice da n dc).ownBlock)
    (hs0 : 0 ≤ src) (hw0 : 0 ≤ wds) (hp0 : 0 ≤ pair) (hp1 : pair ≤ 1) (hi0 : 0 ≤ index) (hi1 : index ≤ 1) (hin : src + 3 + 4 * (2 + wds) ≤ ms.length) (hn : n < wds) (hws : wds ≤ 65536) (hmore : (n : Int) + 1 < left) :
    Calls Try.prog 60 #[.pointer (some ⟨b, 0, none⟩), .pointer (some ⟨bm, 0, none⟩), .int .i64 now] w
      (StepsA (fun g cap => .tuple #[.agg (DidV.cells {}), nextF 60 b]) b bm bw ms (.slice da n dc) (n + 1) (xs ++ [.int .u32 (rd ms (src + 3 + (2 * pair + index) * (2 + wds) + 2 + n).toNat)]) (fun d => rdCells src rdg wds per pair index left stamp d next) 80 w) := by
  have hl := h.len
  have hbc : ∀ j, w.cell? ⟨b, j, none⟩ = (rdCells src rdg wds per pair index left stamp (.slice da n dc) next)[j]? := hb.cell
  have hbf : ∀ j, w.frozen? ⟨b, j, none⟩ = false := hb.frozen
  have hlt := hb.lt
  have hlt1 : b < w.heap.size + 1 := by omega
  have hlt2 : b < w.heap.size + 1 + 1 := by omega
  have hlt3 : b < w.heap.size + 1 + 1 + 1 := by omega
  have hlt4 : b < w.heap.size + 1 + 1 + 1 + 1 := by omega
  have hlw := h.hw.lt
  have n2' := n2.symm
  have n1' := n1.symm
  have hmf : ∀ (fn : Fn) (first cap : Array Value) (w : World), (Instr.makeFunc fn first cap).run Try.prog w = .ok (.func fn first cap) w := fun _ _ _ _ => rfl
  have k0 : 0 ≤ (2 * pair + index) * (2 + wds) := Int.mul_nonneg (by omega) (by omega)
  have k1 : (2 * pair + index) * (2 + wds) ≤ 3 * (2 + wds) := Int.mul_le_mul_of_nonneg_right (by omega) (by omega)
  have hdec : decide ((n : Int) + 1 < left) = true := by simp; omega
  obtain ⟨i0, hi, hz0, hz1, hz2⟩ := info_parts info_u32
  have hw1 : IntKind.i64.wrap (src + 3 + (2 * pair + index) * (2 + wds) + 2) = src + 3 + (2 * pair + index) * (2 + wds) + 2 := wrap_i64 (by omega) (by omega)
  have hw2 : IntKind.i64.wrap (src + 3 + (2 * pair + index) * (2 + wds) + 2 + n) = src + 3 + (2 * pair + index) * (2 + wds) + 2 + n := wrap_i64 (by omega) (by omega)
  go_enter Try.func60, Try.ntmps60
  go_wp2_with fail
  refine AnyT.start 31 (fun w' => ∀ j, w'.cell? ⟨b, j, none⟩ = (rdCells src rdg wds per pair index left stamp (.slice da n dc) next)[j]?) (by kernel_rfl) ?_ (fun hHeld => ?_)
  · (try dsimp only); (refine Blk.cell (t := 80) ?_; (repeat' with_reducible (first | exact hb | apply Blk.drew | apply Blk.alloc | exact hb1)); done)
  refine AnyT.take (i := 0) (oi := { dst := some 8, op := Op.move (Operand.tmp 0), type := 40, pos := "four.go:180", after := #[], guard := none }) (v := ?_) rfl (by kernel_rfl) (fun _ _ _ h => h) hHeld (Or.inl ⟨by rfl, ?_⟩) ?_
  rotate_left
  · intro w hSw; (try dsimp only at hSw); go_simp
    try with_reducible rfl
  try simp only [Act.put, List.setIfInBounds_toArray, List.set_cons_zero, List.set_cons_succ]
  refine AnyT.take (i := 1) (oi := { dst := some 9, op := Op.move (Operand.tmp 0), type := 40, pos := "four.go:180", after := #[], guard := none }) (v := ?_) rfl (by kernel_rfl) (fun _ _ _ h => h) hHeld (Or.inl ⟨by rfl, ?_⟩) ?_
  rotate_left
  · intro w hSw; (try dsimp only at hSw); go_simp
    try with_reducible rfl
  try simp only [Act.put, List.setIfInBounds_toArray, List.set_cons_zero, List.set_cons_succ]
  refine AnyT.take (i := 2) (oi := { dst := some 10, op := Op.nilCheck (Operand.tmp 9), type := 0, pos := "four.go:180", after := #[{ on := 1, ground := Ground.data }], guard := none }) (v := ?_) rfl (by kernel_rfl) (fun _ _ _ h => h) hHeld (Or.inl ⟨by rfl, ?_⟩) ?_
  rotate_left
  · intro w hSw; (try dsimp only at hSw); go_simp
    try with_reducible rfl
  try simp only [Act.put, List.setIfInBounds_toArray, List.set_cons_zero, List.set_cons_succ]
  refine AnyT.take (i := 3) (oi := { dst := some 11, op := Op.fieldAddr 80 (Operand.tmp 10) 5, type := 0, pos := "four.go:180", after := #[{ on := 2, ground := Ground.data }], guard := none }) (v := ?_) rfl (by kernel_rfl) (fun _ _ _ h => h) hHeld (Or.inl ⟨by rfl, ?_⟩) ?_
  rotate_left
  · intro w hSw; (try dsimp only at hSw); go_simp
    try with_reducible rfl
  try simp only [Act.put, List.setIfInBounds_toArray, List.set_cons_zero, List.set_cons_succ]
  refine AnyT.take (i := 4) (oi := { dst := some 12, op := Op.load 46 (Operand.tmp 11), type := 46, pos := "four.go:180", after := #[{ on := 3, ground := Ground.data }], guard := none }) (v := ?_) rfl (by kernel_rfl) (fun _ _ _ h => h) hHeld (Or.inl ⟨by rfl, ?_⟩) ?_
  rotate_left
  · intro w hSw; (try dsimp only at hSw); go_simp
    try with_reducible rfl
  try simp only [Act.put, List.setIfInBounds_toArray, List.set_cons_zero, List.set_cons_succ]
  refine AnyT.take (i := 5) (oi := { dst := some 13, op := Op.move (Operand.tmp 1), type := 33, pos := "four.go:180", after := #[], guard := none }) (v := ?_) rfl (by kernel_rfl) (fun _ _ _ h => h) hHeld (Or.inl ⟨by rfl, ?_⟩) ?_
  rotate_left
  · intro w hSw; (try dsimp only at hSw); go_simp
    try with_reducible rfl
  try simp only [Act.put, List.setIfInBounds_toArray, List.set_cons_zero, List.set_cons_succ]
  refine AnyT.take (i := 6) (oi := { dst := some 14, op := Op.move (Operand.tmp 0), type := 40, pos := "four.go:180", after := #[], guard := none }) (v := ?_) rfl (by kernel_rfl) (fun _ _ _ h => h) hHeld (Or.inl ⟨by rfl, ?_⟩) ?_
  rotate_left
  · intro w hSw; (try dsimp only at hSw); go_simp
    try with_reducible rfl
  try simp only [Act.put, List.setIfInBounds_toArray, List.set_cons_zero, List.set_cons_succ]
  refine AnyT.take (i := 7) (oi := { dst := some 15, op := Op.nilCheck (Operand.tmp 14), type := 0, pos := "four.go:180", after := #[{ on := 6, ground := Ground.data }], guard := none }) (v := ?_) rfl (by kernel_rfl) (fun _ _ _ h => h) hHeld (Or.inl ⟨by rfl, ?_⟩) ?_
  rotate_left
  · intro w hSw; (try dsimp only at hSw); go_simp
    try with_reducible rfl
  try simp only [Act.put, List.setIfInBounds_toArray, List.set_cons_zero, List.set_cons_succ]
  refine AnyT.take (i := 8) (oi := { dst := some 16, op := Op.fieldAddr 80 (Operand.tmp 15) 0, type := 0, pos := "four.go:180", after := #[{ on := 7, ground := Ground.data }], guard := none }) (v := ?_) rfl (by kernel_rfl) (fun _ _ _ h => h) hHeld (Or.inl ⟨by rfl, ?_⟩) ?_
  rotate_left
  · intro w hSw; (try dsimp only at hSw); go_simp
    try with_reducible rfl
  try simp only [Act.put, List.setIfInBounds_toArray, List.set_cons_zero, List.set_cons_succ]
  refine AnyT.take (i := 9) (oi := { dst := some 17, op := Op.load 71 (Operand.tmp 16), type := 71, pos := "four.go:180", after := #[{ on := 8, ground := Ground.data }], guard := none }) (v := ?_) rfl (by kernel_rfl) (fun _ _ _ h => h) hHeld (Or.inl ⟨by rfl, ?_⟩) ?_
  rotate_left
  · intro w hSw; (try dsimp only at hSw); go_simp
    try with_reducible rfl
  try simp only [Act.put, List.setIfInBounds_toArray, List.set_cons_zero, List.set_cons_succ]
  refine AnyT.take (i := 10) (oi := { dst := some 18, op := Op.move (Operand.tmp 0), type := 40, pos := "four.go:180", after := #[], guard := none }) (v := ?_) rfl (by kernel_rfl) (fun _ _ _ h => h) hHeld (Or.inl ⟨by rfl, ?_⟩) ?_
  rotate_left
  · intro w hSw; (try dsimp only at hSw); go_simp
    try with_reducible rfl
  try simp only [Act.put, List.setIfInBounds_toArray, List.set_cons_zero, List.set_cons_succ]
  refine AnyT.take (i := 11) (oi := { dst := some 19, op := Op.nilCheck (Operand.tmp 18), type := 0, pos := "four.go:180", after := #[{ on := 10, ground := Ground.data }], guard := none }) (v := ?_) rfl (by kernel_rfl) (fun _ _ _ h => h) hHeld (Or.inl ⟨by rfl, ?_⟩) ?_
  rotate_left
  · intro w hSw; (try dsimp only at hSw); go_simp
    try with_reducible rfl
  try simp only [Act.put, List.setIfInBounds_toArray, List.set_cons_zero, List.set_cons_succ]
  refine AnyT.take (i := 12) (oi := { dst := some 20, op := Op.fieldAddr 80 (Operand.tmp 19) 1, type := 0, pos := "four.go:180", after := #[{ on := 11, ground := Ground.data }], guard := none }) (v := ?_) rfl (by kernel_rfl) (fun _ _ _ h => h) hHeld (Or.inl ⟨by rfl, ?_⟩) ?_
  rotate_left
  · intro w hSw; (try dsimp only at hSw); go_simp
    try with_reducible rfl
  try simp only [Act.put, List.setIfInBounds_toArray, List.set_cons_zero, List.set_cons_succ]
  refine AnyT.take (i := 13) (oi := { dst := some 21, op := Op.load 41 (Operand.tmp 20), type := 41, pos := "four.go:180", after := #[{ on := 12, ground := Ground.data }], guard := none }) (v := ?_) rfl (by kernel_rfl) (fun _ _ _ h => h) hHeld (Or.inl ⟨by rfl, ?_⟩) ?_
  rotate_left
  · intro w hSw; (try dsimp only at hSw); go_simp
    try with_reducible rfl
  try simp only [Act.put, List.setIfInBounds_toArray, List.set_cons_zero, List.set_cons_succ]
  refine AnyT.take (i := 14) (oi := { dst := some 22, op := Op.move (Operand.tmp 0), type := 40, pos := "four.go:180", after := #[], guard := none }) (v := ?_) rfl (by kernel_rfl) (fun _ _ _ h => h) hHeld (Or.inl ⟨by rfl, ?_⟩) ?_
  rotate_left
  · intro w hSw; (try dsimp only at hSw); go_simp
    try with_reducible rfl
  try simp only [Act.put, List.setIfInBounds_toArray, List.set_cons_zero, List.set_cons_succ]
  refine AnyT.take (i := 15) (oi := { dst := some 23, op := Op.nilCheck (Operand.tmp 22), type := 0, pos := "four.go:180", after := #[{ on := 14, ground := Ground.data }], guard := none }) (v := ?_) rfl (by kernel_rfl) (fun _ _ _ h => h) hHeld (Or.inl ⟨by rfl, ?_⟩) ?_
  rotate_left
  · intro w hSw; (try dsimp only at hSw); go_simp
    try with_reducible rfl
  try simp only [Act.put, List.setIfInBounds_toArray, List.set_cons_zero, List.set_cons_succ]
  refine AnyT.take (i := 16) (oi := { dst := some 24, op := Op.fieldAddr 80 (Operand.tmp 23) 2, type := 0, pos := "four.go:180", after := #[{ on := 15, ground := Ground.data }], guard := none }) (v := ?_) rfl (by kernel_rfl) (fun _ _ _ h => h) hHeld (Or.inl ⟨by rfl, ?_⟩) ?_
  rotate_left
  · intro w hSw; (try dsimp only at hSw); go_simp
    try with_reducible rfl
  try simp only [Act.put, List.setIfInBounds_toArray, List.set_cons_zero, List.set_cons_succ]
  refine AnyT.take (i := 17) (oi := { dst := some 25, op := Op.load 41 (Operand.tmp 24), type := 41, pos := "four.go:180", after := #[{ on := 16, ground := Ground.data }], guard := none }) (v := ?_) rfl (by kernel_rfl) (fun _ _ _ h => h) hHeld (Or.inl ⟨by rfl, ?_⟩) ?_
  rotate_left
  · intro w hSw; (try dsimp only at hSw); go_simp
    try with_reducible rfl
  try simp only [Act.put, List.setIfInBounds_toArray, List.set_cons_zero, List.set_cons_succ]
  refine AnyT.take (i := 20) (oi := { dst := some 28, op := Op.move (Operand.tmp 0), type := 40, pos := "four.go:180", after := #[], guard := none }) (v := ?_) rfl (by kernel_rfl) (fun _ _ _ h => h) hHeld (Or.inl ⟨by rfl, ?_⟩) ?_
  rotate_left
  · intro w hSw; (try dsimp only at hSw); go_simp
    try with_reducible rfl
  try simp only [Act.put, List.setIfInBounds_toArray, List.set_cons_zero, List.set_cons_succ]
  refine AnyT.take (i := 21) (oi := { dst := some 29, op := Op.nilCheck (Operand.tmp 28), type := 0, pos := "four.go:180", after := #[{ on := 20, ground := Ground.data }], guard := none }) (v := ?_) rfl (by kernel_rfl) (fun _ _ _ h => h) hHeld (Or.inl ⟨by rfl, ?_⟩) ?_
  rotate_left
  · intro w hSw; (try dsimp only at hSw); go_simp
    try with_reducible rfl
  try simp only [Act.put, List.setIfInBounds_toArray, List.set_cons_zero, List.set_cons_succ]
  refine AnyT.take (i := 22) (oi := { dst := some 30, op := Op.fieldAddr 80 (Operand.tmp 29) 5, type := 0, pos := "four.go:180", after := #[{ on := 21, ground := Ground.data }], guard := none }) (v := ?_) rfl (by kernel_rfl) (fun _ _ _ h => h) hHeld (Or.inl ⟨by rfl, ?_⟩) ?_
  rotate_left
  · intro w hSw; (try dsimp only at hSw); go_simp
    try with_reducible rfl
  try simp only [Act.put, List.setIfInBounds_toArray, List.set_cons_zero, List.set_cons_succ]
  refine AnyT.take (i := 23) (oi := { dst := some 31, op := Op.load 46 (Operand.tmp 30), type := 46, pos := "four.go:180", after := #[{ on := 22, ground := Ground.data }], guard := none }) (v := ?_) rfl (by kernel_rfl) (fun _ _ _ h => h) hHeld (Or.inl ⟨by rfl, ?_⟩) ?_
  rotate_left
  · intro w hSw; (try dsimp only at hSw); go_simp
    try with_reducible rfl
  try simp only [Act.put, List.setIfInBounds_toArray, List.set_cons_zero, List.set_cons_succ]
  refine AnyT.take (i := 24) (oi := { dst := some 32, op := Op.call { callee := Callee.builtin Builtin.len, args := #[Operand.tmp 31], argTypes := #[46] }, type := 3, pos := "four.go:180", after := #[{ on := 23, ground := Ground.data }], guard := none }) (v := ?_) rfl (by kernel_rfl) (fun _ _ _ h => h) hHeld (Or.inl ⟨by rfl, ?_⟩) ?_
  rotate_left
  · intro w hSw; (try dsimp only at hSw); go_simp
    try with_reducible rfl
  try simp only [Act.put, List.setIfInBounds_toArray, List.set_cons_zero, List.set_cons_succ]
  refine AnyT.step (i := 18) (oi := { dst := some 26, op := Op.call { callee := Callee.value (Operand.func 49), args := #[Operand.tmp 17, Operand.tmp 21, Operand.tmp 25], argTypes := #[71, 41, 41] }, type := 3, pos := "four.go:180", after := #[{ on := 9, ground := Ground.data }, { on := 13, ground := Ground.data }, { on := 17, ground := Ground.data }], guard := none }) rfl rfl (by kernel_rfl) (fun K hK => ?_)
  go_simp
  first | (go_at_call 49; refine (buffer_any src rdg wds per pair index _ hs0 (by omega) hw0 (by omega) hp0 hp1 hi0 hi1).mono ?_; rintro e w' ⟨rfl, rfl⟩) | (go_at_call 30; refine (load_yes bm bw ms _ _ (by repeat' with_reducible (first | exact h | apply MemAt.drew | apply MemAt.alloc | refine MemAt.other ?_ n1' n2' _)) (by omega) (by omega)).mono ?_; rintro e w' ⟨rfl, rfl⟩)
  refine hK.out _ _ ?_ (fun hHeld => ?_)
  · (try dsimp only); (refine Blk.cell (t := 80) ?_; (repeat' with_reducible (first | exact hb | apply Blk.drew | apply Blk.alloc | exact hb1)); done)
  clear hK K
  try simp only [Act.put, List.setIfInBounds_toArray, List.set_cons_zero, List.set_cons_succ]
  refine AnyT.take (i := 19) (oi := { dst := some 27, op := Op.binOp BinOp.add 3 (Operand.tmp 26) (Operand.const (Value.int IntKind.i64 2)) 3, type := 3, pos := "four.go:180", after := #[{ on := 18, ground := Ground.data }], guard := none }) (v := ?_) rfl (by kernel_rfl) (fun _ _ _ h => h) hHeld (Or.inl ⟨by rfl, ?_⟩) ?_
  rotate_left
  · intro w hSw; (try dsimp only at hSw); go_simp
    try with_reducible rfl
  try simp only [Act.put, List.setIfInBounds_toArray, List.set_cons_zero, List.set_cons_succ]
  refine AnyT.take (i := 25) (oi := { dst := some 33, op := Op.binOp BinOp.add 3 (Operand.tmp 27) (Operand.tmp 32) 3, type := 3, pos := "four.go:180", after := #[{ on := 19, ground := Ground.data }, { on := 24, ground := Ground.data }], guard := none }) (v := ?_) rfl (by kernel_rfl) (fun _ _ _ h => h) hHeld (Or.inl ⟨by rfl, ?_⟩) ?_
  rotate_left
  · intro w hSw; (try dsimp only at hSw); go_simp
    try with_reducible rfl
  try simp only [Act.put, List.setIfInBounds_toArray, List.set_cons_zero, List.set_cons_succ]
  refine AnyT.step (i := 26) (oi := { dst := some 34, op := Op.call { callee := Callee.value (Operand.func 30), args := #[Operand.tmp 13, Operand.tmp 33], argTypes := #[33, 3] }, type := 41, pos := "four.go:180", after := #[{ on := 5, ground := Ground.data }, { on := 25, ground := Ground.data }, { on := 18, ground := Ground.chain }], guard := none }) rfl rfl (by kernel_rfl) (fun K hK => ?_)
  go_simp
  first | (go_at_call 49; refine (buffer_any src rdg wds per pair index _ hs0 (by omega) hw0 (by omega) hp0 hp1 hi0 hi1).mono ?_; rintro e w' ⟨rfl, rfl⟩) | (go_at_call 30; refine (load_yes bm bw ms _ _ (by repeat' with_reducible (first | exact h | apply MemAt.drew | apply MemAt.alloc | refine MemAt.other ?_ n1' n2' _)) (by omega) (by omega)).mono ?_; rintro e w' ⟨rfl, rfl⟩)
  refine hK.out _ _ ?_ (fun hHeld => ?_)
  · (try dsimp only); (refine Blk.cell (t := 80) ?_; (repeat' with_reducible (first | exact hb | apply Blk.drew | apply Blk.alloc | exact hb1)); done)
  clear hK K
  try simp only [Act.put, List.setIfInBounds_toArray, List.set_cons_zero, List.set_cons_succ]
  refine AnyT.step (i := 27) (oi := { dst := some 35, op := Op.buildSlice 46 1 #[(0, Operand.tmp 34)], type := 46, pos := "four.go:180", after := #[{ on := 26, ground := Ground.data }], guard := none }) rfl rfl (by kernel_rfl) (fun K hK => ?_)
  go_simp
  refine hK.out _ _ ?_ (fun hHeld => ?_)
  · (try dsimp only); (refine Blk.cell (t := 80) ?_; (repeat' with_reducible (first | exact hb | apply Blk.drew | apply Blk.alloc | exact hb1)); done)
  clear hK K
  try simp only [Act.put, List.setIfInBounds_toArray, List.set_cons_zero, List.set_cons_succ]
  refine AnyT.step (i := 28) (oi := { dst := some 36, op := Op.call { callee := Callee.builtin Builtin.append, args := #[Operand.tmp 12, Operand.tmp 35], argTypes := #[46, 46] }, type := 46, pos := "four.go:180", after := #[{ on := 4, ground := Ground.data }, { on := 27, ground := Ground.data }, { on := 26, ground := Ground.chain }], guard := none }) rfl rfl (by kernel_rfl) (fun K hK => ?_)
  (refine wp_append_lies _ _ _ _ (by rfl) 0 41 i0 _ 1 4 Try.underlying46 hi hz0 hz1 hz2 rfl (by omega) (.slice da n dc) n xs (by rfl) (by repeat' with_reducible (first | exact hown | apply ownsRow_drew | apply World.ownsRow.alloc)) ⟨w.heap.size + 1 + 1, 0, none⟩ 1 1 [.int .u32 (rd ms (src + 3 + (2 * pair + index) * (2 + wds) + 2 + n).toNat)] (by rfl) (by rfl) (by exact news1 (t := 41) (by repeat' (first | with_reducible (apply Blk.drew) | (refine Blk.newAt ?_; simp; done)))) (by simp [Value.oneCell']) (by omega) (by unfold maxLen; omega) (by omega) (by omega) _ rfl ?_; intro g cap w1 hown1 hgrow hat hlt1; have hb1 : Blk w1 b (rdCells src rdg wds per pair index left stamp (.slice da n dc) next) 80 := Blk.grown (by repeat' with_reducible (first | exact hb | apply Blk.drew | apply Blk.alloc)) hgrow o1; have hbf1 : ∀ j, w1.frozen? ⟨b, j, none⟩ = false := hb1.frozen; have hbc1 : ∀ j, w1.cell? ⟨b, j, none⟩ = (rdCells src rdg wds per pair index left stamp (.slice da n dc) next)[j]? := hb1.cell; have hm1 : MemAt w1 bm bw ms := MemAt.grown (by repeat' with_reducible (first | exact h | apply MemAt.drew | apply MemAt.alloc)) hgrow o2 o3; have hr1 : Blk w1 w.heap.size (DidV.cells {}) 53 := Blk.grown (by repeat' (first | with_reducible (apply Blk.drew) | (refine Blk.newAt ?_; simp; done) | with_reducible (apply Blk.alloc))) hgrow (ownsRow_old hown (Nat.le_refl _)))
  refine hK.out _ _ ?_ (fun hHeld => ?_)
  · (try dsimp only); (refine Blk.cell (t := 80) ?_; (repeat' with_reducible (first | exact hb | apply Blk.drew | apply Blk.alloc | exact hb1)); done)
  clear hK K
  try simp only [Act.put, List.setIfInBounds_toArray, List.set_cons_zero, List.set_cons_succ]
  refine AnyT.step (i := 29) (oi := { dst := some 37, op := Op.nilCheck (Operand.tmp 8), type := 0, pos := "four.go:180", after := #[{ on := 0, ground := Ground.data }, { on := 0, ground := Ground.phase }, { on := 1, ground := Ground.phase }, { on := 2, ground := Ground.phase }, { on := 3, ground := Ground.phase }, { on := 4, ground := Ground.phase }, { on := 5, ground := Ground.phase }, { on := 6, ground := Ground.phase }, { on := 7, ground := Ground.phase }, { on := 8, ground := Ground.phase }, { on := 9, ground := Ground.phase }, { on := 10, ground := Ground.phase }, { on := 11, ground := Ground.phase }, { on := 12, ground := Ground.phase }, { on := 13, ground := Ground.phase }, { on := 14, ground := Ground.phase }, { on := 15, ground := Ground.phase }, { on := 16, ground := Ground.phase }, { on := 17, ground := Ground.phase }, { on := 18, ground := Ground.phase }, { on := 19, ground := Ground.phase }, { on := 20, ground := Ground.phase }, { on := 21, ground := Ground.phase }, { on := 22, ground := Ground.phase }, { on := 23, ground := Ground.phase }, { on := 24, ground := Ground.phase }, { on := 25, ground := Ground.phase }, { on := 26, ground := Ground.phase }, { on := 27, ground := Ground.phase }, { on := 28, ground := Ground.phase }], guard := none }) rfl rfl (by kernel_rfl) (fun K hK => ?_)
  go_simp
  refine hK.out _ _ ?_ (fun hHeld => ?_)
  · (try dsimp only); (refine Blk.cell (t := 80) ?_; (repeat' with_reducible (first | exact hb | apply Blk.drew | apply Blk.alloc | exact hb1)); done)
  clear hK K
  try simp only [Act.put, List.setIfInBounds_toArray, List.set_cons_zero, List.set_cons_succ]
  refine AnyT.take (i := 30) (oi := { dst := some 38, op := Op.fieldAddr 80 (Operand.tmp 37) 5, type := 0, pos := "four.go:180", after := #[{ on := 29, ground := Ground.data }, { on := 0, ground := Ground.phase }, { on := 1, ground := Ground.phase }, { on := 2, ground := Ground.phase }, { on := 3, ground := Ground.phase }, { on := 4, ground := Ground.phase }, { on := 5, ground := Ground.phase }, { on := 6, ground := Ground.phase }, { on := 7, ground := Ground.phase }, { on := 8, ground := Ground.phase }, { on := 9, ground := Ground.phase }, { on := 10, ground := Ground.phase }, { on := 11, ground := Ground.phase }, { on := 12, ground := Ground.phase }, { on := 13, ground := Ground.phase }, { on := 14, ground := Ground.phase }, { on := 15, ground := Ground.phase }, { on := 16, ground := Ground.phase }, { on := 17, ground := Ground.phase }, { on := 18, ground := Ground.phase }, { on := 19, ground := Ground.phase }, { on := 20, ground := Ground.phase }, { on := 21, ground := Ground.phase }, { on := 22, ground := Ground.phase }, { on := 23, ground := Ground.phase }, { on := 24, ground := Ground.phase }, { on := 25, ground := Ground.phase }, { on := 26, ground := Ground.phase }, { on := 27, ground := Ground.phase }, { on := 28, ground := Ground.phase }], guard := none }) (v := ?_) rfl (by kernel_rfl) (fun _ _ _ h => h) hHeld (Or.inl ⟨by rfl, ?_⟩) ?_
  rotate_left
  · intro w hSw; (try dsimp only at hSw); go_simp
    try with_reducible rfl
  try simp only [Act.put, List.setIfInBounds_toArray, List.set_cons_zero, List.set_cons_succ]
  refine AnyT.last (i := 31) (oi := { dst := none, op := Op.store 46 (Operand.tmp 38) (Operand.tmp 36), type := 0, pos := "four.go:180", after := #[{ on := 30, ground := Ground.data }, { on := 28, ground := Ground.data }, { on := 28, ground := Ground.chain }, { on := 0, ground := Ground.phase }, { on := 1, ground := Ground.phase }, { on := 2, ground := Ground.phase }, { on := 3, ground := Ground.phase }, { on := 4, ground := Ground.phase }, { on := 5, ground := Ground.phase }, { on := 6, ground := Ground.phase }, { on := 7, ground := Ground.phase }, { on := 8, ground := Ground.phase }, { on := 9, ground := Ground.phase }, { on := 10, ground := Ground.phase }, { on := 11, ground := Ground.phase }, { on := 12, ground := Ground.phase }, { on := 13, ground := Ground.phase }, { on := 14, ground := Ground.phase }, { on := 15, ground := Ground.phase }, { on := 16, ground := Ground.phase }, { on := 17, ground := Ground.phase }, { on := 18, ground := Ground.phase }, { on := 19, ground := Ground.phase }, { on := 20, ground := Ground.phase }, { on := 21, ground := Ground.phase }, { on := 22, ground := Ground.phase }, { on := 23, ground := Ground.phase }, { on := 24, ground := Ground.phase }, { on := 25, ground := Ground.phase }, { on := 26, ground := Ground.phase }, { on := 27, ground := Ground.phase }, { on := 28, ground := Ground.phase }], guard := none }) rfl rfl rfl (by kernel_rfl) (by kernel_rfl) (fun K hK => ?_)
  go_simp
  refine hK.out _ _ ?_
  clear hK K
  try simp only [Act.put, List.setIfInBounds_toArray, List.set_cons_zero, List.set_cons_succ]
  have hb2 : Blk (w1.setCell ⟨b, 8, none⟩ (.slice (some ⟨g, 0, none⟩) (n + 1) cap)) b (rdCells src rdg wds per pair index left stamp (.slice (some ⟨g, 0, none⟩) (n + 1) cap) next) 80 := hb1.set 8 _
  have hm2 := hm1.other (p := ⟨b, 8, none⟩) n1' n2' (.slice (some ⟨g, 0, none⟩) (n + 1) cap)
  have hr2 := hr1.other (p := ⟨b, 8, none⟩) (Nat.ne_of_gt hlt) (.slice (some ⟨g, 0, none⟩) (n + 1) cap)
  have hgb : some b ≠ (Value.slice (some ⟨g, 0, none⟩) (n + 1) cap).ownBlock := by
    intro e
    rcases hat with hat | hat
    · exact o1 (e.trans hat.symm)
    · simp [Value.ownBlock] at e
      simp at hat
      omega
  have hown2 := ownsRow_other hown1 (a := ⟨b, 8, none⟩) hgb (.slice (some ⟨g, 0, none⟩) (n + 1) cap)
  have hk2 : Keeps (b :: (Value.slice da n dc).ownBlock.toList) w (w1.setCell ⟨b, 8, none⟩ (.slice (some ⟨g, 0, none⟩) (n + 1) cap)) := by
    refine Keeps.setCell (Keeps.grown ?_ hgrow ?_) (by simp) _
    · (repeat' with_reducible (first | exact Keeps.refl _ _ | apply Keeps.drew | apply Keeps.alloc))
    · intro k hk _
      rw [hk]; simp
  have hat2 : (Value.slice da n dc).ownBlock = some g ∨ w.heap.size ≤ g := hat.imp id (fun e => by simp at e; omega)
  generalize w1.setCell ⟨b, 8, none⟩ (.slice (some ⟨g, 0, none⟩) (n + 1) cap) = w2 at *
  have hlr := hr2.lt
  have hlm := h.hm.lt
  have hgr : g ≠ w.heap.size := by
    rcases hat with hat | hat
    · intro e
      exact ownsRow_old hown (Nat.le_refl _) ((congrArg some e).symm.trans hat.symm)
    · simp at hat
      omega
  generalize hrb : w.heap.size = rb at *
  have Hrb := Lib.hid hrb
  have hbr : b ≠ rb := by omega
  clear hrb hgrow hb1 hbc1 hbf1 hm1 hr1 hlt1 hlt2 hlt3 hlt4 hHeld hat hown1 hbc hbf
  have hbc2 : ∀ j, w2.cell? ⟨b, j, none⟩ = (rdCells src rdg wds per pair index left stamp (.slice (some ⟨g, 0, none⟩) (n + 1) cap) next)[j]? := hb2.cell
  have hrc2 : ∀ j, w2.cell? ⟨rb, j, none⟩ = (DidV.cells {})[j]? := hr2.cell
  have hrf2 : ∀ j, w2.frozen? ⟨rb, j, none⟩ = false := hr2.frozen
  simp only [DidV.cells] at hrc2
  go_wp2_with fail
  go_region_held3 (fun w' => ∀ j, w'.cell? ⟨b, j, none⟩ = (rdCells src rdg wds per pair index left stamp (.slice (some ⟨g, 0, none⟩) (n + 1) cap) next)[j]?) (first | (refine Blk.cell (t := 80) ?_; (repeat' (with_reducible (first | exact hb2 | apply Blk.drew | refine Blk.other ?_ hbr _))); done))
    (fail)
  go_wp2
  all_goals
    have hat3 : (Value.slice da n dc).ownBlock = some g ∨ w.heap.size ≤ g := by rw [Hrb.out]; exact hat2
    refine ret_did (did := {}) (nx := nextF 60 b) rfl rfl rfl rfl ?_ ⟨g, cap, rfl, ?_, ?_, ?_, ?_, hat3⟩
    · apply Exists.intro
      refine And.intro ?_ ?_
      · (repeat' (first | with_reducible (first | exact hr2 | apply Blk.drew | refine' Blk.other ?_ (by dsimp only; omega) _ | apply Blk.set)))
      · rfl
    · (repeat' (first | with_reducible (first | exact hk2 | apply Keeps.drew | (refine Keeps.setCell ?_ (by have := Hrb.out; dsimp only; omega) _))))
    · (repeat' (first | with_reducible (first | exact hm2 | apply MemAt.drew | refine MemAt.other ?_ (by dsimp only; omega) (by dsimp only; omega) _)))
    · (repeat' (first | with_reducible (first | exact hb2 | apply Blk.drew | refine Blk.other ?_ (by dsimp only; omega) _)))
    · (repeat' (first | with_reducible (first | exact hown2 | apply ownsRow_drew) | refine ownsRow_other ?_ (by simp [Value.ownBlock]; omega) _))


set_option maxRecDepth 100000 in
set_option maxHeartbeats 1000000 in
theorem Rword_last (bm bw b n dc : Nat) (da : Option Addr) (xs : List Value) (ms : List Int) (src rdg wds per pair index left stamp : Int) (next : Value) (now : Int) (w : World)
    (h : MemAt w bm bw ms) (hb : Blk w b (rdCells src rdg wds per pair index left stamp (.slice da n dc) next) 80) (n1 : b ≠ bm) (n2 : b ≠ bw) (hown : w.ownsRow 0 41 1 (.slice da n dc) n xs) (o1 : some b ≠ (Value.slice da n dc).ownBlock) (o2 : some bm ≠ (Value.slice da n dc).ownBlock) (o3 : some bw ≠ (Value.slice da n dc).ownBlock)
    (hs0 : 0 ≤ src) (hw0 : 0 ≤ wds) (hp0 : 0 ≤ pair) (hp1 : pair ≤ 1) (hi0 : 0 ≤ index) (hi1 : index ≤ 1) (hin : src + 3 + 4 * (2 + wds) ≤ ms.length) (hn : n < wds) (hws : wds ≤ 65536) (hlast : ¬ (n : Int) + 1 < left) (hnow0 : 0 ≤ now) (hnow1 : now ≤ 4294967295) (hst0 : 0 ≤ stamp) (hst1 : stamp ≤ 4294967295) :
    Calls Try.prog 60 #[.pointer (some ⟨b, 0, none⟩), .pointer (some ⟨bm, 0, none⟩), .int .i64 now] w
      (StepsA (fun g cap => .tuple #[.agg (DidV.cells { done := true, da := some ⟨g, 0, none⟩, dn := n + 1, dc := cap, valid := decide (now - stamp ≤ per) }), .nilFunc]) b bm bw ms (.slice da n dc) (n + 1) (xs ++ [.int .u32 (rd ms (src + 3 + (2 * pair + index) * (2 + wds) + 2 + n).toNat)]) (fun d => rdCells src rdg wds per pair index left stamp d next) 80 w) := by
  have hl := h.len
  have hbc : ∀ j, w.cell? ⟨b, j, none⟩ = (rdCells src rdg wds per pair index left stamp (.slice da n dc) next)[j]? := hb.cell
  have hbf : ∀ j, w.frozen? ⟨b, j, none⟩ = false := hb.frozen
  have hlt := hb.lt
  have hlt1 : b < w.heap.size + 1 := by omega
  have hlt2 : b < w.heap.size + 1 + 1 := by omega
  have hlt3 : b < w.heap.size + 1 + 1 + 1 := by omega
  have hlt4 : b < w.heap.size + 1 + 1 + 1 + 1 := by omega
  have hlw := h.hw.lt
  have n2' := n2.symm
  have n1' := n1.symm
  have hmf : ∀ (fn : Fn) (first cap : Array Value) (w : World), (Instr.makeFunc fn first cap).run Try.prog w = .ok (.func fn first cap) w := fun _ _ _ _ => rfl
  have k0 : 0 ≤ (2 * pair + index) * (2 + wds) := Int.mul_nonneg (by omega) (by omega)
  have k1 : (2 * pair + index) * (2 + wds) ≤ 3 * (2 + wds) := Int.mul_le_mul_of_nonneg_right (by omega) (by omega)
  have hdec : decide ((n : Int) + 1 < left) = false := by simp; omega
  have hws1 : IntKind.i64.wrap stamp = stamp := wrap_i64 (by omega) (by omega)
  have hws2 : IntKind.i64.wrap (now - stamp) = now - stamp := wrap_i64s (by omega) (by omega)
  obtain ⟨i0, hi, hz0, hz1, hz2⟩ := info_parts info_u32
  have hw1 : IntKind.i64.wrap (src + 3 + (2 * pair + index) * (2 + wds) + 2) = src + 3 + (2 * pair + index) * (2 + wds) + 2 := wrap_i64 (by omega) (by omega)
  have hw2 : IntKind.i64.wrap (src + 3 + (2 * pair + index) * (2 + wds) + 2 + n) = src + 3 + (2 * pair + index) * (2 + wds) + 2 + n := wrap_i64 (by omega) (by omega)
  go_enter Try.func60, Try.ntmps60
  go_wp2_with fail
  refine AnyT.start 31 (fun w' => ∀ j, w'.cell? ⟨b, j, none⟩ = (rdCells src rdg wds per pair index left stamp (.slice da n dc) next)[j]?) (by kernel_rfl) ?_ (fun hHeld => ?_)
  · (try dsimp only); (refine Blk.cell (t := 80) ?_; (repeat' with_reducible (first | exact hb | apply Blk.drew | apply Blk.alloc | exact hb1)); done)
  refine AnyT.take (i := 0) (oi := { dst := some 8, op := Op.move (Operand.tmp 0), type := 40, pos := "four.go:180", after := #[], guard := none }) (v := ?_) rfl (by kernel_rfl) (fun _ _ _ h => h) hHeld (Or.inl ⟨by rfl, ?_⟩) ?_
  rotate_left
  · intro w hSw; (try dsimp only at hSw); go_simp
    try with_reducible rfl
  try simp only [Act.put, List.setIfInBounds_toArray, List.set_cons_zero, List.set_cons_succ]
  refine AnyT.take (i := 1) (oi := { dst := some 9, op := Op.move (Operand.tmp 0), type := 40, pos := "four.go:180", after := #[], guard := none }) (v := ?_) rfl (by kernel_rfl) (fun _ _ _ h => h) hHeld (Or.inl ⟨by rfl, ?_⟩) ?_
  rotate_left
  · intro w hSw; (try dsimp only at hSw); go_simp
    try with_reducible rfl
  try simp only [Act.put, List.setIfInBounds_toArray, List.set_cons_zero, List.set_cons_succ]
  refine AnyT.take (i := 2) (oi := { dst := some 10, op := Op.nilCheck (Operand.tmp 9), type := 0, pos := "four.go:180", after := #[{ on := 1, ground := Ground.data }], guard := none }) (v := ?_) rfl (by kernel_rfl) (fun _ _ _ h => h) hHeld (Or.inl ⟨by rfl, ?_⟩) ?_
  rotate_left
  · intro w hSw; (try dsimp only at hSw); go_simp
    try with_reducible rfl
  try simp only [Act.put, List.setIfInBounds_toArray, List.set_cons_zero, List.set_cons_succ]
  refine AnyT.take (i := 3) (oi := { dst := some 11, op := Op.fieldAddr 80 (Operand.tmp 10) 5, type := 0, pos := "four.go:180", after := #[{ on := 2, ground := Ground.data }], guard := none }) (v := ?_) rfl (by kernel_rfl) (fun _ _ _ h => h) hHeld (Or.inl ⟨by rfl, ?_⟩) ?_
  rotate_left
  · intro w hSw; (try dsimp only at hSw); go_simp
    try with_reducible rfl
  try simp only [Act.put, List.setIfInBounds_toArray, List.set_cons_zero, List.set_cons_succ]
  refine AnyT.take (i := 4) (oi := { dst := some 12, op := Op.load 46 (Operand.tmp 11), type := 46, pos := "four.go:180", after := #[{ on := 3, ground := Ground.data }], guard := none }) (v := ?_) rfl (by kernel_rfl) (fun _ _ _ h => h) hHeld (Or.inl ⟨by rfl, ?_⟩) ?_
  rotate_left
  · intro w hSw; (try dsimp only at hSw); go_simp
    try with_reducible rfl
  try simp only [Act.put, List.setIfInBounds_toArray, List.set_cons_zero, List.set_cons_succ]
  refine AnyT.take (i := 5) (oi := { dst := some 13, op := Op.move (Operand.tmp 1), type := 33, pos := "four.go:180", after := #[], guard := none }) (v := ?_) rfl (by kernel_rfl) (fun _ _ _ h => h) hHeld (Or.inl ⟨by rfl, ?_⟩) ?_
  rotate_left
  · intro w hSw; (try dsimp only at hSw); go_simp
    try with_reducible rfl
  try simp only [Act.put, List.setIfInBounds_toArray, List.set_cons_zero, List.set_cons_succ]
  refine AnyT.take (i := 6) (oi := { dst := some 14, op := Op.move (Operand.tmp 0), type := 40, pos := "four.go:180", after := #[], guard := none }) (v := ?_) rfl (by kernel_rfl) (fun _ _ _ h => h) hHeld (Or.inl ⟨by rfl, ?_⟩) ?_
  rotate_left
  · intro w hSw; (try dsimp only at hSw); go_simp
    try with_reducible rfl
  try simp only [Act.put, List.setIfInBounds_toArray, List.set_cons_zero, List.set_cons_succ]
  refine AnyT.take (i := 7) (oi := { dst := some 15, op := Op.nilCheck (Operand.tmp 14), type := 0, pos := "four.go:180", after := #[{ on := 6, ground := Ground.data }], guard := none }) (v := ?_) rfl (by kernel_rfl) (fun _ _ _ h => h) hHeld (Or.inl ⟨by rfl, ?_⟩) ?_
  rotate_left
  · intro w hSw; (try dsimp only at hSw); go_simp
    try with_reducible rfl
  try simp only [Act.put, List.setIfInBounds_toArray, List.set_cons_zero, List.set_cons_succ]
  refine AnyT.take (i := 8) (oi := { dst := some 16, op := Op.fieldAddr 80 (Operand.tmp 15) 0, type := 0, pos := "four.go:180", after := #[{ on := 7, ground := Ground.data }], guard := none }) (v := ?_) rfl (by kernel_rfl) (fun _ _ _ h => h) hHeld (Or.inl ⟨by rfl, ?_⟩) ?_
  rotate_left
  · intro w hSw; (try dsimp only at hSw); go_simp
    try with_reducible rfl
  try simp only [Act.put, List.setIfInBounds_toArray, List.set_cons_zero, List.set_cons_succ]
  refine AnyT.take (i := 9) (oi := { dst := some 17, op := Op.load 71 (Operand.tmp 16), type := 71, pos := "four.go:180", after := #[{ on := 8, ground := Ground.data }], guard := none }) (v := ?_) rfl (by kernel_rfl) (fun _ _ _ h => h) hHeld (Or.inl ⟨by rfl, ?_⟩) ?_
  rotate_left
  · intro w hSw; (try dsimp only at hSw); go_simp
    try with_reducible rfl
  try simp only [Act.put, List.setIfInBounds_toArray, List.set_cons_zero, List.set_cons_succ]
  refine AnyT.take (i := 10) (oi := { dst := some 18, op := Op.move (Operand.tmp 0), type := 40, pos := "four.go:180", after := #[], guard := none }) (v := ?_) rfl (by kernel_rfl) (fun _ _ _ h => h) hHeld (Or.inl ⟨by rfl, ?_⟩) ?_
  rotate_left
  · intro w hSw; (try dsimp only at hSw); go_simp
    try with_reducible rfl
  try simp only [Act.put, List.setIfInBounds_toArray, List.set_cons_zero, List.set_cons_succ]
  refine AnyT.take (i := 11) (oi := { dst := some 19, op := Op.nilCheck (Operand.tmp 18), type := 0, pos := "four.go:180", after := #[{ on := 10, ground := Ground.data }], guard := none }) (v := ?_) rfl (by kernel_rfl) (fun _ _ _ h => h) hHeld (Or.inl ⟨by rfl, ?_⟩) ?_
  rotate_left
  · intro w hSw; (try dsimp only at hSw); go_simp
    try with_reducible rfl
  try simp only [Act.put, List.setIfInBounds_toArray, List.set_cons_zero, List.set_cons_succ]
  refine AnyT.take (i := 12) (oi := { dst := some 20, op := Op.fieldAddr 80 (Operand.tmp 19) 1, type := 0, pos := "four.go:180", after := #[{ on := 11, ground := Ground.data }], guard := none }) (v := ?_) rfl (by kernel_rfl) (fun _ _ _ h => h) hHeld (Or.inl ⟨by rfl, ?_⟩) ?_
  rotate_left
  · intro w hSw; (try dsimp only at hSw); go_simp
    try with_reducible rfl
  try simp only [Act.put, List.setIfInBounds_toArray, List.set_cons_zero, List.set_cons_succ]
  refine AnyT.take (i := 13) (oi := { dst := some 21, op := Op.load 41 (Operand.tmp 20), type := 41, pos := "four.go:180", after := #[{ on := 12, ground := Ground.data }], guard := none }) (v := ?_) rfl (by kernel_rfl) (fun _ _ _ h => h) hHeld (Or.inl ⟨by rfl, ?_⟩) ?_
  rotate_left
  · intro w hSw; (try dsimp only at hSw); go_simp
    try with_reducible rfl
  try simp only [Act.put, List.setIfInBounds_toArray, List.set_cons_zero, List.set_cons_succ]
  refine AnyT.take (i := 14) (oi := { dst := some 22, op := Op.move (Operand.tmp 0), type := 40, pos := "four.go:180", after := #[], guard := none }) (v := ?_) rfl (by kernel_rfl) (fun _ _ _ h => h) hHeld (Or.inl ⟨by rfl, ?_⟩) ?_
  rotate_left
  · intro w hSw; (try dsimp only at hSw); go_simp
    try with_reducible rfl
  try simp only [Act.put, List.setIfInBounds_toArray, List.set_cons_zero, List.set_cons_succ]
  refine AnyT.take (i := 15) (oi := { dst := some 23, op := Op.nilCheck (Operand.tmp 22), type := 0, pos := "four.go:180", after := #[{ on := 14, ground := Ground.data }], guard := none }) (v := ?_) rfl (by kernel_rfl) (fun _ _ _ h => h) hHeld (Or.inl ⟨by rfl, ?_⟩) ?_
  rotate_left
  · intro w hSw; (try dsimp only at hSw); go_simp
    try with_reducible rfl
  try simp only [Act.put, List.setIfInBounds_toArray, List.set_cons_zero, List.set_cons_succ]
  refine AnyT.take (i := 16) (oi := { dst := some 24, op := Op.fieldAddr 80 (Operand.tmp 23) 2, type := 0, pos := "four.go:180", after := #[{ on := 15, ground := Ground.data }], guard := none }) (v := ?_) rfl (by kernel_rfl) (fun _ _ _ h => h) hHeld (Or.inl ⟨by rfl, ?_⟩) ?_
  rotate_left
  · intro w hSw; (try dsimp only at hSw); go_simp
    try with_reducible rfl
  try simp only [Act.put, List.setIfInBounds_toArray, List.set_cons_zero, List.set_cons_succ]
  refine AnyT.take (i := 17) (oi := { dst := some 25, op := Op.load 41 (Operand.tmp 24), type := 41, pos := "four.go:180", after := #[{ on := 16, ground := Ground.data }], guard := none }) (v := ?_) rfl (by kernel_rfl) (fun _ _ _ h => h) hHeld (Or.inl ⟨by rfl, ?_⟩) ?_
  rotate_left
  · intro w hSw; (try dsimp only at hSw); go_simp
    try with_reducible rfl
  try simp only [Act.put, List.setIfInBounds_toArray, List.set_cons_zero, List.set_cons_succ]
  refine AnyT.take (i := 20) (oi := { dst := some 28, op := Op.move (Operand.tmp 0), type := 40, pos := "four.go:180", after := #[], guard := none }) (v := ?_) rfl (by kernel_rfl) (fun _ _ _ h => h) hHeld (Or.inl ⟨by rfl, ?_⟩) ?_
  rotate_left
  · intro w hSw; (try dsimp only at hSw); go_simp
    try with_reducible rfl
  try simp only [Act.put, List.setIfInBounds_toArray, List.set_cons_zero, List.set_cons_succ]
  refine AnyT.take (i := 21) (oi := { dst := some 29, op := Op.nilCheck (Operand.tmp 28), type := 0, pos := "four.go:180", after := #[{ on := 20, ground := Ground.data }], guard := none }) (v := ?_) rfl (by kernel_rfl) (fun _ _ _ h => h) hHeld (Or.inl ⟨by rfl, ?_⟩) ?_
  rotate_left
  · intro w hSw; (try dsimp only at hSw); go_simp
    try with_reducible rfl
  try simp only [Act.put, List.setIfInBounds_toArray, List.set_cons_zero, List.set_cons_succ]
  refine AnyT.take (i := 22) (oi := { dst := some 30, op := Op.fieldAddr 80 (Operand.tmp 29) 5, type := 0, pos := "four.go:180", after := #[{ on := 21, ground := Ground.data }], guard := none }) (v := ?_) rfl (by kernel_rfl) (fun _ _ _ h => h) hHeld (Or.inl ⟨by rfl, ?_⟩) ?_
  rotate_left
  · intro w hSw; (try dsimp only at hSw); go_simp
    try with_reducible rfl
  try simp only [Act.put, List.setIfInBounds_toArray, List.set_cons_zero, List.set_cons_succ]
  refine AnyT.take (i := 23) (oi := { dst := some 31, op := Op.load 46 (Operand.tmp 30), type := 46, pos := "four.go:180", after := #[{ on := 22, ground := Ground.data }], guard := none }) (v := ?_) rfl (by kernel_rfl) (fun _ _ _ h => h) hHeld (Or.inl ⟨by rfl, ?_⟩) ?_
  rotate_left
  · intro w hSw; (try dsimp only at hSw); go_simp
    try with_reducible rfl
  try simp only [Act.put, List.setIfInBounds_toArray, List.set_cons_zero, List.set_cons_succ]
  refine AnyT.take (i := 24) (oi := { dst := some 32, op := Op.call { callee := Callee.builtin Builtin.len, args := #[Operand.tmp 31], argTypes := #[46] }, type := 3, pos := "four.go:180", after := #[{ on := 23, ground := Ground.data }], guard := none }) (v := ?_) rfl (by kernel_rfl) (fun _ _ _ h => h) hHeld (Or.inl ⟨by rfl, ?_⟩) ?_
  rotate_left
  · intro w hSw; (try dsimp only at hSw); go_simp
    try with_reducible rfl
  try simp only [Act.put, List.setIfInBounds_toArray, List.set_cons_zero, List.set_cons_succ]
  refine AnyT.step (i := 18) (oi := { dst := some 26, op := Op.call { callee := Callee.value (Operand.func 49), args := #[Operand.tmp 17, Operand.tmp 21, Operand.tmp 25], argTypes := #[71, 41, 41] }, type := 3, pos := "four.go:180", after := #[{ on := 9, ground := Ground.data }, { on := 13, ground := Ground.data }, { on := 17, ground := Ground.data }], guard := none }) rfl rfl (by kernel_rfl) (fun K hK => ?_)
  go_simp
  first | (go_at_call 49; refine (buffer_any src rdg wds per pair index _ hs0 (by omega) hw0 (by omega) hp0 hp1 hi0 hi1).mono ?_; rintro e w' ⟨rfl, rfl⟩) | (go_at_call 30; refine (load_yes bm bw ms _ _ (by repeat' with_reducible (first | exact h | apply MemAt.drew | apply MemAt.alloc | refine MemAt.other ?_ n1' n2' _)) (by omega) (by omega)).mono ?_; rintro e w' ⟨rfl, rfl⟩)
  refine hK.out _ _ ?_ (fun hHeld => ?_)
  · (try dsimp only); (refine Blk.cell (t := 80) ?_; (repeat' with_reducible (first | exact hb | apply Blk.drew | apply Blk.alloc | exact hb1)); done)
  clear hK K
  try simp only [Act.put, List.setIfInBounds_toArray, List.set_cons_zero, List.set_cons_succ]
  refine AnyT.take (i := 19) (oi := { dst := some 27, op := Op.binOp BinOp.add 3 (Operand.tmp 26) (Operand.const (Value.int IntKind.i64 2)) 3, type := 3, pos := "four.go:180", after := #[{ on := 18, ground := Ground.data }], guard := none }) (v := ?_) rfl (by kernel_rfl) (fun _ _ _ h => h) hHeld (Or.inl ⟨by rfl, ?_⟩) ?_
  rotate_left
  · intro w hSw; (try dsimp only at hSw); go_simp
    try with_reducible rfl
  try simp only [Act.put, List.setIfInBounds_toArray, List.set_cons_zero, List.set_cons_succ]
  refine AnyT.take (i := 25) (oi := { dst := some 33, op := Op.binOp BinOp.add 3 (Operand.tmp 27) (Operand.tmp 32) 3, type := 3, pos := "four.go:180", after := #[{ on := 19, ground := Ground.data }, { on := 24, ground := Ground.data }], guard := none }) (v := ?_) rfl (by kernel_rfl) (fun _ _ _ h => h) hHeld (Or.inl ⟨by rfl, ?_⟩) ?_
  rotate_left
  · intro w hSw; (try dsimp only at hSw); go_simp
    try with_reducible rfl
  try simp only [Act.put, List.setIfInBounds_toArray, List.set_cons_zero, List.set_cons_succ]
  refine AnyT.step (i := 26) (oi := { dst := some 34, op := Op.call { callee := Callee.value (Operand.func 30), args := #[Operand.tmp 13, Operand.tmp 33], argTypes := #[33, 3] }, type := 41, pos := "four.go:180", after := #[{ on := 5, ground := Ground.data }, { on := 25, ground := Ground.data }, { on := 18, ground := Ground.chain }], guard := none }) rfl rfl (by kernel_rfl) (fun K hK => ?_)
  go_simp
  first | (go_at_call 49; refine (buffer_any src rdg wds per pair index _ hs0 (by omega) hw0 (by omega) hp0 hp1 hi0 hi1).mono ?_; rintro e w' ⟨rfl, rfl⟩) | (go_at_call 30; refine (load_yes bm bw ms _ _ (by repeat' with_reducible (first | exact h | apply MemAt.drew | apply MemAt.alloc | refine MemAt.other ?_ n1' n2' _)) (by omega) (by omega)).mono ?_; rintro e w' ⟨rfl, rfl⟩)
  refine hK.out _ _ ?_ (fun hHeld => ?_)
  · (try dsimp only); (refine Blk.cell (t := 80) ?_; (repeat' with_reducible (first | exact hb | apply Blk.drew | apply Blk.alloc | exact hb1)); done)
  clear hK K
  try simp only [Act.put, List.setIfInBounds_toArray, List.set_cons_zero, List.set_cons_succ]
  refine AnyT.step (i := 27) (oi := { dst := some 35, op := Op.buildSlice 46 1 #[(0, Operand.tmp 34)], type := 46, pos := "four.go:180", after := #[{ on := 26, ground := Ground.data }], guard := none }) rfl rfl (by kernel_rfl) (fun K hK => ?_)
  go_simp
  refine hK.out _ _ ?_ (fun hHeld => ?_)
  · (try dsimp only); (refine Blk.cell (t := 80) ?_; (repeat' with_reducible (first | exact hb | apply Blk.drew | apply Blk.alloc | exact hb1)); done)
  clear hK K
  try simp only [Act.put, List.setIfInBounds_toArray, List.set_cons_zero, List.set_cons_succ]
  refine AnyT.step (i := 28) (oi := { dst := some 36, op := Op.call { callee := Callee.builtin Builtin.append, args := #[Operand.tmp 12, Operand.tmp 35], argTypes := #[46, 46] }, type := 46, pos := "four.go:180", after := #[{ on := 4, ground := Ground.data }, { on := 27, ground := Ground.data }, { on := 26, ground := Ground.chain }], guard := none }) rfl rfl (by kernel_rfl) (fun K hK => ?_)
  (refine wp_append_lies _ _ _ _ (by rfl) 0 41 i0 _ 1 4 Try.underlying46 hi hz0 hz1 hz2 rfl (by omega) (.slice da n dc) n xs (by rfl) (by repeat' with_reducible (first | exact hown | apply ownsRow_drew | apply World.ownsRow.alloc)) ⟨w.heap.size + 1 + 1, 0, none⟩ 1 1 [.int .u32 (rd ms (src + 3 + (2 * pair + index) * (2 + wds) + 2 + n).toNat)] (by rfl) (by rfl) (by exact news1 (t := 41) (by repeat' (first | with_reducible (apply Blk.drew) | (refine Blk.newAt ?_; simp; done)))) (by simp [Value.oneCell']) (by omega) (by unfold maxLen; omega) (by omega) (by omega) _ rfl ?_; intro g cap w1 hown1 hgrow hat hlt1; have hb1 : Blk w1 b (rdCells src rdg wds per pair index left stamp (.slice da n dc) next) 80 := Blk.grown (by repeat' with_reducible (first | exact hb | apply Blk.drew | apply Blk.alloc)) hgrow o1; have hbf1 : ∀ j, w1.frozen? ⟨b, j, none⟩ = false := hb1.frozen; have hbc1 : ∀ j, w1.cell? ⟨b, j, none⟩ = (rdCells src rdg wds per pair index left stamp (.slice da n dc) next)[j]? := hb1.cell; have hm1 : MemAt w1 bm bw ms := MemAt.grown (by repeat' with_reducible (first | exact h | apply MemAt.drew | apply MemAt.alloc)) hgrow o2 o3; have hr1 : Blk w1 w.heap.size (DidV.cells {}) 53 := Blk.grown (by repeat' (first | with_reducible (apply Blk.drew) | (refine Blk.newAt ?_; simp; done) | with_reducible (apply Blk.alloc))) hgrow (ownsRow_old hown (Nat.le_refl _)))
  refine hK.out _ _ ?_ (fun hHeld => ?_)
  · (try dsimp only); (refine Blk.cell (t := 80) ?_; (repeat' with_reducible (first | exact hb | apply Blk.drew | apply Blk.alloc | exact hb1)); done)
  clear hK K
  try simp only [Act.put, List.setIfInBounds_toArray, List.set_cons_zero, List.set_cons_succ]
  refine AnyT.step (i := 29) (oi := { dst := some 37, op := Op.nilCheck (Operand.tmp 8), type := 0, pos := "four.go:180", after := #[{ on := 0, ground := Ground.data }, { on := 0, ground := Ground.phase }, { on := 1, ground := Ground.phase }, { on := 2, ground := Ground.phase }, { on := 3, ground := Ground.phase }, { on := 4, ground := Ground.phase }, { on := 5, ground := Ground.phase }, { on := 6, ground := Ground.phase }, { on := 7, ground := Ground.phase }, { on := 8, ground := Ground.phase }, { on := 9, ground := Ground.phase }, { on := 10, ground := Ground.phase }, { on := 11, ground := Ground.phase }, { on := 12, ground := Ground.phase }, { on := 13, ground := Ground.phase }, { on := 14, ground := Ground.phase }, { on := 15, ground := Ground.phase }, { on := 16, ground := Ground.phase }, { on := 17, ground := Ground.phase }, { on := 18, ground := Ground.phase }, { on := 19, ground := Ground.phase }, { on := 20, ground := Ground.phase }, { on := 21, ground := Ground.phase }, { on := 22, ground := Ground.phase }, { on := 23, ground := Ground.phase }, { on := 24, ground := Ground.phase }, { on := 25, ground := Ground.phase }, { on := 26, ground := Ground.phase }, { on := 27, ground := Ground.phase }, { on := 28, ground := Ground.phase }], guard := none }) rfl rfl (by kernel_rfl) (fun K hK => ?_)
  go_simp
  refine hK.out _ _ ?_ (fun hHeld => ?_)
  · (try dsimp only); (refine Blk.cell (t := 80) ?_; (repeat' with_reducible (first | exact hb | apply Blk.drew | apply Blk.alloc | exact hb1)); done)
  clear hK K
  try simp only [Act.put, List.setIfInBounds_toArray, List.set_cons_zero, List.set_cons_succ]
  refine AnyT.take (i := 30) (oi := { dst := some 38, op := Op.fieldAddr 80 (Operand.tmp 37) 5, type := 0, pos := "four.go:180", after := #[{ on := 29, ground := Ground.data }, { on := 0, ground := Ground.phase }, { on := 1, ground := Ground.phase }, { on := 2, ground := Ground.phase }, { on := 3, ground := Ground.phase }, { on := 4, ground := Ground.phase }, { on := 5, ground := Ground.phase }, { on := 6, ground := Ground.phase }, { on := 7, ground := Ground.phase }, { on := 8, ground := Ground.phase }, { on := 9, ground := Ground.phase }, { on := 10, ground := Ground.phase }, { on := 11, ground := Ground.phase }, { on := 12, ground := Ground.phase }, { on := 13, ground := Ground.phase }, { on := 14, ground := Ground.phase }, { on := 15, ground := Ground.phase }, { on := 16, ground := Ground.phase }, { on := 17, ground := Ground.phase }, { on := 18, ground := Ground.phase }, { on := 19, ground := Ground.phase }, { on := 20, ground := Ground.phase }, { on := 21, ground := Ground.phase }, { on := 22, ground := Ground.phase }, { on := 23, ground := Ground.phase }, { on := 24, ground := Ground.phase }, { on := 25, ground := Ground.phase }, { on := 26, ground := Ground.phase }, { on := 27, ground := Ground.phase }, { on := 28, ground := Ground.phase }], guard := none }) (v := ?_) rfl (by kernel_rfl) (fun _ _ _ h => h) hHeld (Or.inl ⟨by rfl, ?_⟩) ?_
  rotate_left
  · intro w hSw; (try dsimp only at hSw); go_simp
    try with_reducible rfl
  try simp only [Act.put, List.setIfInBounds_toArray, List.set_cons_zero, List.set_cons_succ]
  refine AnyT.last (i := 31) (oi := { dst := none, op := Op.store 46 (Operand.tmp 38) (Operand.tmp 36), type := 0, pos := "four.go:180", after := #[{ on := 30, ground := Ground.data }, { on := 28, ground := Ground.data }, { on := 28, ground := Ground.chain }, { on := 0, ground := Ground.phase }, { on := 1, ground := Ground.phase }, { on := 2, ground := Ground.phase }, { on := 3, ground := Ground.phase }, { on := 4, ground := Ground.phase }, { on := 5, ground := Ground.phase }, { on := 6, ground := Ground.phase }, { on := 7, ground := Ground.phase }, { on := 8, ground := Ground.phase }, { on := 9, ground := Ground.phase }, { on := 10, ground := Ground.phase }, { on := 11, ground := Ground.phase }, { on := 12, ground := Ground.phase }, { on := 13, ground := Ground.phase }, { on := 14, ground := Ground.phase }, { on := 15, ground := Ground.phase }, { on := 16, ground := Ground.phase }, { on := 17, ground := Ground.phase }, { on := 18, ground := Ground.phase }, { on := 19, ground := Ground.phase }, { on := 20, ground := Ground.phase }, { on := 21, ground := Ground.phase }, { on := 22, ground := Ground.phase }, { on := 23, ground := Ground.phase }, { on := 24, ground := Ground.phase }, { on := 25, ground := Ground.phase }, { on := 26, ground := Ground.phase }, { on := 27, ground := Ground.phase }, { on := 28, ground := Ground.phase }], guard := none }) rfl rfl rfl (by kernel_rfl) (by kernel_rfl) (fun K hK => ?_)
  go_simp
  refine hK.out _ _ ?_
  clear hK K
  try simp only [Act.put, List.setIfInBounds_toArray, List.set_cons_zero, List.set_cons_succ]
  have hb2 : Blk (w1.setCell ⟨b, 8, none⟩ (.slice (some ⟨g, 0, none⟩) (n + 1) cap)) b (rdCells src rdg wds per pair index left stamp (.slice (some ⟨g, 0, none⟩) (n + 1) cap) next) 80 := hb1.set 8 _
  have hm2 := hm1.other (p := ⟨b, 8, none⟩) n1' n2' (.slice (some ⟨g, 0, none⟩) (n + 1) cap)
  have hr2 := hr1.other (p := ⟨b, 8, none⟩) (Nat.ne_of_gt hlt) (.slice (some ⟨g, 0, none⟩) (n + 1) cap)
  have hgb : some b ≠ (Value.slice (some ⟨g, 0, none⟩) (n + 1) cap).ownBlock := by
    intro e
    rcases hat with hat | hat
    · exact o1 (e.trans hat.symm)
    · simp [Value.ownBlock] at e
      simp at hat
      omega
  have hown2 := ownsRow_other hown1 (a := ⟨b, 8, none⟩) hgb (.slice (some ⟨g, 0, none⟩) (n + 1) cap)
  have hk2 : Keeps (b :: (Value.slice da n dc).ownBlock.toList) w (w1.setCell ⟨b, 8, none⟩ (.slice (some ⟨g, 0, none⟩) (n + 1) cap)) := by
    refine Keeps.setCell (Keeps.grown ?_ hgrow ?_) (by simp) _
    · (repeat' with_reducible (first | exact Keeps.refl _ _ | apply Keeps.drew | apply Keeps.alloc))
    · intro k hk _
      rw [hk]; simp
  have hat2 : (Value.slice da n dc).ownBlock = some g ∨ w.heap.size ≤ g := hat.imp id (fun e => by simp at e; omega)
  generalize w1.setCell ⟨b, 8, none⟩ (.slice (some ⟨g, 0, none⟩) (n + 1) cap) = w2 at *
  have hlr := hr2.lt
  have hlm := h.hm.lt
  have hgr : g ≠ w.heap.size := by
    rcases hat with hat | hat
    · intro e
      exact ownsRow_old hown (Nat.le_refl _) ((congrArg some e).symm.trans hat.symm)
    · simp at hat
      omega
  generalize hrb : w.heap.size = rb at *
  have Hrb := Lib.hid hrb
  have hbr : b ≠ rb := by omega
  clear hrb hgrow hb1 hbc1 hbf1 hm1 hr1 hlt1 hlt2 hlt3 hlt4 hHeld hat hown1 hbc hbf
  have hbc2 : ∀ j, w2.cell? ⟨b, j, none⟩ = (rdCells src rdg wds per pair index left stamp (.slice (some ⟨g, 0, none⟩) (n + 1) cap) next)[j]? := hb2.cell
  have hrc2 : ∀ j, w2.cell? ⟨rb, j, none⟩ = (DidV.cells {})[j]? := hr2.cell
  have hrf2 : ∀ j, w2.frozen? ⟨rb, j, none⟩ = false := hr2.frozen
  simp only [DidV.cells] at hrc2
  go_wp2_with fail
  go_region_held3 (fun w' => ∀ j, w'.cell? ⟨b, j, none⟩ = (rdCells src rdg wds per pair index left stamp (.slice (some ⟨g, 0, none⟩) (n + 1) cap) next)[j]?) (first | (refine Blk.cell (t := 80) ?_; (repeat' (with_reducible (first | exact hb2 | apply Blk.drew | refine Blk.other ?_ hbr _))); done))
    (fail)
  go_wp2_with fail
  go_region_held3 (fun w' => ∀ j, w'.cell? ⟨b, j, none⟩ = (rdCells src rdg wds per pair index left stamp (.slice (some ⟨g, 0, none⟩) (n + 1) cap) next)[j]?) (first | (refine Blk.cell (t := 80) ?_; (repeat' (with_reducible (first | exact hb2 | apply Blk.drew | refine Blk.other ?_ hbr _))); done))
    (fail)
  go_wp2
  all_goals
    have hat3 : (Value.slice da n dc).ownBlock = some g ∨ w.heap.size ≤ g := by rw [Hrb.out]; exact hat2
    refine ret_did (did := { done := true, da := some ⟨g, 0, none⟩, dn := n + 1, dc := cap, valid := decide (now - stamp ≤ per) }) (nx := .nilFunc) rfl rfl rfl rfl ?_ ⟨g, cap, rfl, ?_, ?_, ?_, ?_, hat3⟩
    · apply Exists.intro
      refine And.intro ?_ ?_
      · (repeat' (first | with_reducible (first | exact hr2 | apply Blk.drew | refine' Blk.other ?_ (by dsimp only; omega) _ | apply Blk.set)))
      · rfl
    · (repeat' (first | with_reducible (first | exact hk2 | apply Keeps.drew | (refine Keeps.setCell ?_ (by have := Hrb.out; dsimp only; omega) _))))
    · (repeat' (first | with_reducible (first | exact hm2 | apply MemAt.drew | refine MemAt.other ?_ (by dsimp only; omega) (by dsimp only; omega) _)))
    · (repeat' (first | with_reducible (first | exact hb2 | apply Blk.drew | refine Blk.other ?_ (by dsimp only; omega) _)))
    · (repeat' (first | with_reducible (first | exact hown2 | apply ownsRow_drew) | refine ownsRow_other ?_ (by simp [Value.ownBlock]; omega) _))

end Go.Proofs.Ytpkjffiajidfcaa

/- Writer.Step and Reader.Step, over what the next step does. -/
namespace Go.Proofs.Ytpkjffiajidfcaa
open Go.RowKit

/-- What Step leaves. -/
def StepsW (l : List Nat) (v : Value) (b bm bw : Nat) (ms : List Int) (vs : Array Value) (t : TypeId) (w : World) (e : Ending) (w' : World) : Prop :=
  e = .returned v ∧ Keeps l w w' ∧ MemAt w' bm bw ms ∧ Blk w' b vs t


set_option maxHeartbeats 1000000 in
set_option maxRecDepth 100000 in
theorem WriterStep_nil (bm b : Nat) (vs : Array Value) (hnx : vs[9]? = some .nilFunc) (now : Int) (w : World) (hb : Blk w b vs 77) :
    Calls Try.prog 14 #[.pointer (some ⟨b, 0, none⟩), .pointer (some ⟨bm, 0, none⟩), .int .i64 now] w fun e w' => e = .returned (.agg (DidV.cells {})) ∧ Keeps [] w w' := by
  have hc : w.cell? ⟨b, 9, none⟩ = some .nilFunc := (hb.cell 9).trans hnx
  clear hnx
  have hlt := hb.lt
  have hq : ∀ (w : World), (binOp .eql 75 .nilFunc .nilFunc).run Try.prog w = .ok (.bool true) w := fun _ => by kernel_rfl
  go_enter Try.func14, Try.ntmps14
  go_wp2
  refine ret_did1 (did := {}) rfl rfl rfl ?_ ⟨rfl, ?_⟩
  · apply Exists.intro
    refine And.intro ?_ ?_
    · (repeat' (first | with_reducible (first | apply Blk.drew | (refine Blk.newAt ?_; rfl) | apply Blk.alloc)))
    · simp [DidV.cells]
  · (repeat' with_reducible (first | exact Keeps.refl _ _ | apply Keeps.drew | apply Keeps.alloc))



set_option maxHeartbeats 1000000 in
set_option maxRecDepth 100000 in
theorem WriterStep_next (f bm b bw : Nat) (l : List Nat) (vs vs' : Array Value) (hnx : vs[9]? = some (nextF f b)) (did : DidV) (g : Nat) (v9 : Value) (hv9 : vs'[9]? = some v9) (ms : List Int) (now : Int) (w : World) (hb : Blk w b vs 77) (n1 : b ≠ bm) (n2 : b ≠ bw) (lm : bm < w.heap.size) (lw : bw < w.heap.size)
    (hf : ∀ w1 : World, w1 = w.alloc (.cells (DidV.cells {}) 53) → Calls Try.prog f #[.pointer (some ⟨b, 0, none⟩), .pointer (some ⟨bm, 0, none⟩), .int .i64 now] w1 fun e w' => e = .returned (.tuple #[.agg did.cells, (nextF g b)]) ∧ Keeps (b :: l) w1 w' ∧ MemAt w' bm bw ms ∧ Blk w' b vs' 77) (hl : w.heap.size ∉ l) (hcf : ∀ (args : Array Value) (w : World), (callFunc f args).run Try.prog w = .ok (.enter f args) w) :
    Calls Try.prog 14 #[.pointer (some ⟨b, 0, none⟩), .pointer (some ⟨bm, 0, none⟩), .int .i64 now] w (StepsW (b :: l) (.agg did.cells) b bm bw ms (vs'.setIfInBounds 9 (nextF g b)) 77 w) := by
  have hc : w.cell? ⟨b, 9, none⟩ = some (nextF f b) := (hb.cell 9).trans hnx
  have hlt := hb.lt
  unfold nextF at hc
  unfold nextF at hf ⊢
  have hq : ∀ (fn : Fn) (fi ca : Array Value) (w : World), (binOp .eql 75 (.func fn fi ca) .nilFunc).run Try.prog w = .ok (.bool false) w := fun _ _ _ _ => by kernel_rfl
  have hf' := Lib.hid hf
  clear hf
  go_enter Try.func14, Try.ntmps14
  go_wp2_with fail
  refine (hf'.out _ rfl).mono ?_
  rintro e w1 ⟨rfl, hk, hm, hb1⟩
  have hr1 : Blk w1 w.heap.size (DidV.cells {}) 53 := (Blk.new w _ _).keep hk (by simp; exact ⟨Nat.ne_of_gt hlt, hl⟩)
  have hkw : Keeps (b :: l) w w1 := ((Keeps.refl _ _).alloc _).trans hk
  have hc1 : w1.cell? ⟨b, 9, none⟩ = some v9 := (hb1.cell 9).trans hv9
  have hf1 : ∀ j, w1.frozen? ⟨b, j, none⟩ = false := hb1.frozen
  have hl1 := hb1.lt
  have hrl := hr1.lt
  generalize hrb : w.heap.size = rb at *
  have Hrb := Lib.hid hrb
  have hr2 : ∀ j, w1.cell? ⟨rb, j, none⟩ = (DidV.cells {})[j]? := hr1.cell
  have hf2 : ∀ j, w1.frozen? ⟨rb, j, none⟩ = false := hr1.frozen
  have Hne : b ≠ rb := by omega
  have Hne' : rb ≠ b := by omega
  have Hv9 := Lib.hid hv9
  clear hv9 hrb hnx hc hcf hq hl
  simp only [DidV.cells] at hr2 ⊢
  go_wp2
  refine ret_did1 (did := did) rfl rfl rfl ?_ ⟨rfl, ?_, ?_, ?_⟩
  · apply Exists.intro
    refine And.intro ?_ ?_
    · (repeat' (first | with_reducible (first | exact hr1 | apply Blk.drew | apply Blk.alloc | refine' Blk.other ?_ (by dsimp only; omega) _ | apply Blk.set)))
    · simp [DidV.cells]
  · (repeat' (first | with_reducible (first | exact hkw | apply Keeps.drew | apply Keeps.alloc | (refine Keeps.setCell ?_ ?_ _; rotate_left; (first | (intro _; exact List.mem_cons_self) | (have := Hrb.out; dsimp only; omega))))))
  · (repeat' (first | with_reducible (first | exact hm | apply MemAt.drew | apply MemAt.alloc | refine MemAt.other ?_ (by dsimp only; omega) (by dsimp only; omega) _)))
  · (repeat' (first | with_reducible (first | exact hb1 | apply Blk.drew | apply Blk.alloc | refine Blk.other ?_ (by dsimp only; omega) _ | apply Blk.set)))


set_option maxHeartbeats 1000000 in
set_option maxRecDepth 100000 in
theorem WriterStep_end (f bm b bw : Nat) (l : List Nat) (vs vs' : Array Value) (hnx : vs[9]? = some (nextF f b)) (did : DidV) (v9 : Value) (hv9 : vs'[9]? = some v9) (ms : List Int) (now : Int) (w : World) (hb : Blk w b vs 77) (n1 : b ≠ bm) (n2 : b ≠ bw) (lm : bm < w.heap.size) (lw : bw < w.heap.size)
    (hf : ∀ w1 : World, w1 = w.alloc (.cells (DidV.cells {}) 53) → Calls Try.prog f #[.pointer (some ⟨b, 0, none⟩), .pointer (some ⟨bm, 0, none⟩), .int .i64 now] w1 fun e w' => e = .returned (.tuple #[.agg did.cells, .nilFunc]) ∧ Keeps (b :: l) w1 w' ∧ MemAt w' bm bw ms ∧ Blk w' b vs' 77) (hl : w.heap.size ∉ l) (hcf : ∀ (args : Array Value) (w : World), (callFunc f args).run Try.prog w = .ok (.enter f args) w) :
    Calls Try.prog 14 #[.pointer (some ⟨b, 0, none⟩), .pointer (some ⟨bm, 0, none⟩), .int .i64 now] w (StepsW (b :: l) (.agg did.cells) b bm bw ms (vs'.setIfInBounds 9 .nilFunc) 77 w) := by
  have hc : w.cell? ⟨b, 9, none⟩ = some (nextF f b) := (hb.cell 9).trans hnx
  have hlt := hb.lt
  unfold nextF at hc
  have hq : ∀ (fn : Fn) (fi ca : Array Value) (w : World), (binOp .eql 75 (.func fn fi ca) .nilFunc).run Try.prog w = .ok (.bool false) w := fun _ _ _ _ => by kernel_rfl
  have hf' := Lib.hid hf
  clear hf
  go_enter Try.func14, Try.ntmps14
  go_wp2_with fail
  refine (hf'.out _ rfl).mono ?_
  rintro e w1 ⟨rfl, hk, hm, hb1⟩
  have hr1 : Blk w1 w.heap.size (DidV.cells {}) 53 := (Blk.new w _ _).keep hk (by simp; exact ⟨Nat.ne_of_gt hlt, hl⟩)
  have hkw : Keeps (b :: l) w w1 := ((Keeps.refl _ _).alloc _).trans hk
  have hc1 : w1.cell? ⟨b, 9, none⟩ = some v9 := (hb1.cell 9).trans hv9
  have hf1 : ∀ j, w1.frozen? ⟨b, j, none⟩ = false := hb1.frozen
  have hl1 := hb1.lt
  have hrl := hr1.lt
  generalize hrb : w.heap.size = rb at *
  have Hrb := Lib.hid hrb
  have hr2 : ∀ j, w1.cell? ⟨rb, j, none⟩ = (DidV.cells {})[j]? := hr1.cell
  have hf2 : ∀ j, w1.frozen? ⟨rb, j, none⟩ = false := hr1.frozen
  have Hne : b ≠ rb := by omega
  have Hne' : rb ≠ b := by omega
  have Hv9 := Lib.hid hv9
  clear hv9 hrb hnx hc hcf hq hl
  simp only [DidV.cells] at hr2 ⊢
  go_wp2
  refine ret_did1 (did := did) rfl rfl rfl ?_ ⟨rfl, ?_, ?_, ?_⟩
  · apply Exists.intro
    refine And.intro ?_ ?_
    · (repeat' (first | with_reducible (first | exact hr1 | apply Blk.drew | apply Blk.alloc | refine' Blk.other ?_ (by dsimp only; omega) _ | apply Blk.set)))
    · simp [DidV.cells]
  · (repeat' (first | with_reducible (first | exact hkw | apply Keeps.drew | apply Keeps.alloc | (refine Keeps.setCell ?_ ?_ _; rotate_left; (first | (intro _; exact List.mem_cons_self) | (have := Hrb.out; dsimp only; omega))))))
  · (repeat' (first | with_reducible (first | exact hm | apply MemAt.drew | apply MemAt.alloc | refine MemAt.other ?_ (by dsimp only; omega) (by dsimp only; omega) _)))
  · (repeat' (first | with_reducible (first | exact hb1 | apply Blk.drew | apply Blk.alloc | refine Blk.other ?_ (by dsimp only; omega) _ | apply Blk.set)))


set_option maxHeartbeats 1000000 in
set_option maxRecDepth 100000 in
theorem ReaderStep_nil (bm b : Nat) (vs : Array Value) (hnx : vs[9]? = some .nilFunc) (now : Int) (w : World) (hb : Blk w b vs 80) :
    Calls Try.prog 16 #[.pointer (some ⟨b, 0, none⟩), .pointer (some ⟨bm, 0, none⟩), .int .i64 now] w fun e w' => e = .returned (.agg (DidV.cells {})) ∧ Keeps [] w w' := by
  have hc : w.cell? ⟨b, 9, none⟩ = some .nilFunc := (hb.cell 9).trans hnx
  clear hnx
  have hlt := hb.lt
  have hq : ∀ (w : World), (binOp .eql 75 .nilFunc .nilFunc).run Try.prog w = .ok (.bool true) w := fun _ => by kernel_rfl
  go_enter Try.func16, Try.ntmps16
  go_wp2
  refine ret_did1 (did := {}) rfl rfl rfl ?_ ⟨rfl, ?_⟩
  · apply Exists.intro
    refine And.intro ?_ ?_
    · (repeat' (first | with_reducible (first | apply Blk.drew | (refine Blk.newAt ?_; rfl) | apply Blk.alloc)))
    · simp [DidV.cells]
  · (repeat' with_reducible (first | exact Keeps.refl _ _ | apply Keeps.drew | apply Keeps.alloc))



set_option maxHeartbeats 1000000 in
set_option maxRecDepth 100000 in
theorem ReaderStep_next (f bm b bw : Nat) (l : List Nat) (vs vs' : Array Value) (hnx : vs[9]? = some (nextF f b)) (did : DidV) (g : Nat) (v9 : Value) (hv9 : vs'[9]? = some v9) (ms : List Int) (now : Int) (w : World) (hb : Blk w b vs 80) (n1 : b ≠ bm) (n2 : b ≠ bw) (lm : bm < w.heap.size) (lw : bw < w.heap.size)
    (hf : ∀ w1 : World, w1 = w.alloc (.cells (DidV.cells {}) 53) → Calls Try.prog f #[.pointer (some ⟨b, 0, none⟩), .pointer (some ⟨bm, 0, none⟩), .int .i64 now] w1 fun e w' => e = .returned (.tuple #[.agg did.cells, (nextF g b)]) ∧ Keeps (b :: l) w1 w' ∧ MemAt w' bm bw ms ∧ Blk w' b vs' 80) (hl : w.heap.size ∉ l) (hcf : ∀ (args : Array Value) (w : World), (callFunc f args).run Try.prog w = .ok (.enter f args) w) :
    Calls Try.prog 16 #[.pointer (some ⟨b, 0, none⟩), .pointer (some ⟨bm, 0, none⟩), .int .i64 now] w (StepsW (b :: l) (.agg did.cells) b bm bw ms (vs'.setIfInBounds 9 (nextF g b)) 80 w) := by
  have hc : w.cell? ⟨b, 9, none⟩ = some (nextF f b) := (hb.cell 9).trans hnx
  have hlt := hb.lt
  unfold nextF at hc
  unfold nextF at hf ⊢
  have hq : ∀ (fn : Fn) (fi ca : Array Value) (w : World), (binOp .eql 75 (.func fn fi ca) .nilFunc).run Try.prog w = .ok (.bool false) w := fun _ _ _ _ => by kernel_rfl
  have hf' := Lib.hid hf
  clear hf
  go_enter Try.func16, Try.ntmps16
  go_wp2_with fail
  refine (hf'.out _ rfl).mono ?_
  rintro e w1 ⟨rfl, hk, hm, hb1⟩
  have hr1 : Blk w1 w.heap.size (DidV.cells {}) 53 := (Blk.new w _ _).keep hk (by simp; exact ⟨Nat.ne_of_gt hlt, hl⟩)
  have hkw : Keeps (b :: l) w w1 := ((Keeps.refl _ _).alloc _).trans hk
  have hc1 : w1.cell? ⟨b, 9, none⟩ = some v9 := (hb1.cell 9).trans hv9
  have hf1 : ∀ j, w1.frozen? ⟨b, j, none⟩ = false := hb1.frozen
  have hl1 := hb1.lt
  have hrl := hr1.lt
  generalize hrb : w.heap.size = rb at *
  have Hrb := Lib.hid hrb
  have hr2 : ∀ j, w1.cell? ⟨rb, j, none⟩ = (DidV.cells {})[j]? := hr1.cell
  have hf2 : ∀ j, w1.frozen? ⟨rb, j, none⟩ = false := hr1.frozen
  have Hne : b ≠ rb := by omega
  have Hne' : rb ≠ b := by omega
  have Hv9 := Lib.hid hv9
  clear hv9 hrb hnx hc hcf hq hl
  simp only [DidV.cells] at hr2 ⊢
  go_wp2
  refine ret_did1 (did := did) rfl rfl rfl ?_ ⟨rfl, ?_, ?_, ?_⟩
  · apply Exists.intro
    refine And.intro ?_ ?_
    · (repeat' (first | with_reducible (first | exact hr1 | apply Blk.drew | apply Blk.alloc | refine' Blk.other ?_ (by dsimp only; omega) _ | apply Blk.set)))
    · simp [DidV.cells]
  · (repeat' (first | with_reducible (first | exact hkw | apply Keeps.drew | apply Keeps.alloc | (refine Keeps.setCell ?_ ?_ _; rotate_left; (first | (intro _; exact List.mem_cons_self) | (have := Hrb.out; dsimp only; omega))))))
  · (repeat' (first | with_reducible (first | exact hm | apply MemAt.drew | apply MemAt.alloc | refine MemAt.other ?_ (by dsimp only; omega) (by dsimp only; omega) _)))
  · (repeat' (first | with_reducible (first | exact hb1 | apply Blk.drew | apply Blk.alloc | refine Blk.other ?_ (by dsimp only; omega) _ | apply Blk.set)))


set_option maxHeartbeats 1000000 in
set_option maxRecDepth 100000 in
theorem ReaderStep_end (f bm b bw : Nat) (l : List Nat) (vs vs' : Array Value) (hnx : vs[9]? = some (nextF f b)) (did : DidV) (v9 : Value) (hv9 : vs'[9]? = some v9) (ms : List Int) (now : Int) (w : World) (hb : Blk w b vs 80) (n1 : b ≠ bm) (n2 : b ≠ bw) (lm : bm < w.heap.size) (lw : bw < w.heap.size)
    (hf : ∀ w1 : World, w1 = w.alloc (.cells (DidV.cells {}) 53) → Calls Try.prog f #[.pointer (some ⟨b, 0, none⟩), .pointer (some ⟨bm, 0, none⟩), .int .i64 now] w1 fun e w' => e = .returned (.tuple #[.agg did.cells, .nilFunc]) ∧ Keeps (b :: l) w1 w' ∧ MemAt w' bm bw ms ∧ Blk w' b vs' 80) (hl : w.heap.size ∉ l) (hcf : ∀ (args : Array Value) (w : World), (callFunc f args).run Try.prog w = .ok (.enter f args) w) :
    Calls Try.prog 16 #[.pointer (some ⟨b, 0, none⟩), .pointer (some ⟨bm, 0, none⟩), .int .i64 now] w (StepsW (b :: l) (.agg did.cells) b bm bw ms (vs'.setIfInBounds 9 .nilFunc) 80 w) := by
  have hc : w.cell? ⟨b, 9, none⟩ = some (nextF f b) := (hb.cell 9).trans hnx
  have hlt := hb.lt
  unfold nextF at hc
  have hq : ∀ (fn : Fn) (fi ca : Array Value) (w : World), (binOp .eql 75 (.func fn fi ca) .nilFunc).run Try.prog w = .ok (.bool false) w := fun _ _ _ _ => by kernel_rfl
  have hf' := Lib.hid hf
  clear hf
  go_enter Try.func16, Try.ntmps16
  go_wp2_with fail
  refine (hf'.out _ rfl).mono ?_
  rintro e w1 ⟨rfl, hk, hm, hb1⟩
  have hr1 : Blk w1 w.heap.size (DidV.cells {}) 53 := (Blk.new w _ _).keep hk (by simp; exact ⟨Nat.ne_of_gt hlt, hl⟩)
  have hkw : Keeps (b :: l) w w1 := ((Keeps.refl _ _).alloc _).trans hk
  have hc1 : w1.cell? ⟨b, 9, none⟩ = some v9 := (hb1.cell 9).trans hv9
  have hf1 : ∀ j, w1.frozen? ⟨b, j, none⟩ = false := hb1.frozen
  have hl1 := hb1.lt
  have hrl := hr1.lt
  generalize hrb : w.heap.size = rb at *
  have Hrb := Lib.hid hrb
  have hr2 : ∀ j, w1.cell? ⟨rb, j, none⟩ = (DidV.cells {})[j]? := hr1.cell
  have hf2 : ∀ j, w1.frozen? ⟨rb, j, none⟩ = false := hr1.frozen
  have Hne : b ≠ rb := by omega
  have Hne' : rb ≠ b := by omega
  have Hv9 := Lib.hid hv9
  clear hv9 hrb hnx hc hcf hq hl
  simp only [DidV.cells] at hr2 ⊢
  go_wp2
  refine ret_did1 (did := did) rfl rfl rfl ?_ ⟨rfl, ?_, ?_, ?_⟩
  · apply Exists.intro
    refine And.intro ?_ ?_
    · (repeat' (first | with_reducible (first | exact hr1 | apply Blk.drew | apply Blk.alloc | refine' Blk.other ?_ (by dsimp only; omega) _ | apply Blk.set)))
    · simp [DidV.cells]
  · (repeat' (first | with_reducible (first | exact hkw | apply Keeps.drew | apply Keeps.alloc | (refine Keeps.setCell ?_ ?_ _; rotate_left; (first | (intro _; exact List.mem_cons_self) | (have := Hrb.out; dsimp only; omega))))))
  · (repeat' (first | with_reducible (first | exact hm | apply MemAt.drew | apply MemAt.alloc | refine MemAt.other ?_ (by dsimp only; omega) (by dsimp only; omega) _)))
  · (repeat' (first | with_reducible (first | exact hb1 | apply Blk.drew | apply Blk.alloc | refine Blk.other ?_ (by dsimp only; omega) _ | apply Blk.set)))

end Go.Proofs.Ytpkjffiajidfcaa

/- Reader.Step, where the step chooses where its words lie. -/
namespace Go.Proofs.Ytpkjffiajidfcaa
open Go.RowKit


/-- What Step leaves where the step chose two numbers. -/
def StepsEnextE (l : List Nat) (did : Nat → Nat → DidV) (P : Nat → Nat → World → Prop) (b bm bw : Nat) (ms : List Int) (vs : Nat → Nat → Array Value) (t : TypeId) (w : World) (e : Ending) (w' : World) : Prop :=
  ∃ g cap w1, P g cap w1 ∧ Keeps [b, w.heap.size] w1 w' ∧ e = .returned (.agg (did g cap).cells) ∧ Keeps l w w' ∧ MemAt w' bm bw ms ∧ Blk w' b (vs g cap) t

set_option maxHeartbeats 1000000 in
set_option maxRecDepth 100000 in
theorem ReaderStep_nextE (f bm b bw : Nat) (l : List Nat) (vs : Array Value) (vs' : Nat → Nat → Array Value) (hnx : vs[9]? = some (nextF f b)) (did : Nat → Nat → DidV) (g0 : Nat) (v9 : Value) (hv9 : ∀ g cap, (vs' g cap)[9]? = some v9) (P : Nat → Nat → World → Prop) (ms : List Int) (now : Int) (w : World) (hb : Blk w b vs 80) (n1 : b ≠ bm) (n2 : b ≠ bw) (lm : bm < w.heap.size) (lw : bw < w.heap.size)
    (hf : ∀ w1 : World, w1 = w.alloc (.cells (DidV.cells {}) 53) → Calls Try.prog f #[.pointer (some ⟨b, 0, none⟩), .pointer (some ⟨bm, 0, none⟩), .int .i64 now] w1 fun e w' => ∃ g cap, e = .returned (.tuple #[.agg (did g cap).cells, (nextF g0 b)]) ∧ Keeps (b :: l) w1 w' ∧ MemAt w' bm bw ms ∧ Blk w' b (vs' g cap) 80 ∧ P g cap w') (hl : w.heap.size ∉ l) (hcf : ∀ (args : Array Value) (w : World), (callFunc f args).run Try.prog w = .ok (.enter f args) w) :
    Calls Try.prog 16 #[.pointer (some ⟨b, 0, none⟩), .pointer (some ⟨bm, 0, none⟩), .int .i64 now] w (StepsEnextE (b :: l) did P b bm bw ms (fun g cap => (vs' g cap).setIfInBounds 9 (nextF g0 b)) 80 w) := by
  have hc : w.cell? ⟨b, 9, none⟩ = some (nextF f b) := (hb.cell 9).trans hnx
  have hlt := hb.lt
  unfold nextF at hc
  unfold nextF at hf ⊢
  have hq : ∀ (fn : Fn) (fi ca : Array Value) (w : World), (binOp .eql 75 (.func fn fi ca) .nilFunc).run Try.prog w = .ok (.bool false) w := fun _ _ _ _ => by kernel_rfl
  have hf' := Lib.hid hf
  clear hf
  go_enter Try.func16, Try.ntmps16
  go_wp2_with fail
  refine (hf'.out _ rfl).mono ?_
  rintro e w1 ⟨g, cap, rfl, hk, hm, hb1, hP⟩
  have hv9g := hv9 g cap
  clear hv9
  generalize hD : did g cap = D at *
  obtain ⟨z0, z1, z2, z3, z4, z5, z6, z7, z8, z9, z10⟩ := D
  have HD := Lib.hid hD
  clear hD
  have hr1 : Blk w1 w.heap.size (DidV.cells {}) 53 := (Blk.new w _ _).keep hk (by simp; exact ⟨Nat.ne_of_gt hlt, hl⟩)
  have hkw : Keeps (b :: l) w w1 := ((Keeps.refl _ _).alloc _).trans hk
  have hc1 : w1.cell? ⟨b, 9, none⟩ = some v9 := (hb1.cell 9).trans hv9g
  have hf1 : ∀ j, w1.frozen? ⟨b, j, none⟩ = false := hb1.frozen
  have hl1 := hb1.lt
  have hrl := hr1.lt
  generalize hrb : w.heap.size = rb at *
  have Hrb := Lib.hid hrb
  have hr2 : ∀ j, w1.cell? ⟨rb, j, none⟩ = (DidV.cells {})[j]? := hr1.cell
  have hf2 : ∀ j, w1.frozen? ⟨rb, j, none⟩ = false := hr1.frozen
  have Hne : b ≠ rb := by omega
  have Hne' : rb ≠ b := by omega
  have HP := Lib.hid hP
  clear hv9g hrb hnx hc hcf hq hl hP
  simp only [DidV.cells] at hr2 ⊢
  go_wp2
  refine ret_did1 (did := ⟨z0, z1, z2, z3, z4, z5, z6, z7, z8, z9, z10⟩) rfl rfl rfl ?_ ⟨g, cap, w1, HP.out, ?_, ?_, ?_, ?_, ?_⟩
  · apply Exists.intro
    refine And.intro ?_ ?_
    · (repeat' (first | with_reducible (first | exact hr1 | apply Blk.drew | apply Blk.alloc | refine' Blk.other ?_ (by dsimp only; omega) _ | apply Blk.set)))
    · simp [DidV.cells]
  · rw [Hrb.out]; (repeat' (first | with_reducible (first | exact Keeps.refl _ _ | apply Keeps.drew | apply Keeps.alloc | (refine Keeps.setCell ?_ ?_ _; rotate_left; (first | (intro _; exact List.mem_cons_self) | (intro _; exact List.mem_cons_of_mem _ List.mem_cons_self))))))
  · rw [HD.out]
  · (repeat' (first | with_reducible (first | exact hkw | apply Keeps.drew | apply Keeps.alloc | (refine Keeps.setCell ?_ ?_ _; rotate_left; (first | (intro _; exact List.mem_cons_self) | (have := Hrb.out; dsimp only; omega))))))
  · (repeat' (first | with_reducible (first | exact hm | apply MemAt.drew | apply MemAt.alloc | refine MemAt.other ?_ (by dsimp only; omega) (by dsimp only; omega) _)))
  · (repeat' (first | with_reducible (first | exact hb1 | apply Blk.drew | apply Blk.alloc | refine Blk.other ?_ (by dsimp only; omega) _ | apply Blk.set)))


/-- What Step leaves where the step chose two numbers. -/
def StepsEendE (l : List Nat) (did : Nat → Nat → DidV) (P : Nat → Nat → World → Prop) (b bm bw : Nat) (ms : List Int) (vs : Nat → Nat → Array Value) (t : TypeId) (w : World) (e : Ending) (w' : World) : Prop :=
  ∃ g cap w1, P g cap w1 ∧ Keeps [b, w.heap.size] w1 w' ∧ e = .returned (.agg (did g cap).cells) ∧ Keeps l w w' ∧ MemAt w' bm bw ms ∧ Blk w' b (vs g cap) t

set_option maxHeartbeats 1000000 in
set_option maxRecDepth 100000 in
theorem ReaderStep_endE (f bm b bw : Nat) (l : List Nat) (vs : Array Value) (vs' : Nat → Nat → Array Value) (hnx : vs[9]? = some (nextF f b)) (did : Nat → Nat → DidV) (v9 : Value) (hv9 : ∀ g cap, (vs' g cap)[9]? = some v9) (P : Nat → Nat → World → Prop) (ms : List Int) (now : Int) (w : World) (hb : Blk w b vs 80) (n1 : b ≠ bm) (n2 : b ≠ bw) (lm : bm < w.heap.size) (lw : bw < w.heap.size)
    (hf : ∀ w1 : World, w1 = w.alloc (.cells (DidV.cells {}) 53) → Calls Try.prog f #[.pointer (some ⟨b, 0, none⟩), .pointer (some ⟨bm, 0, none⟩), .int .i64 now] w1 fun e w' => ∃ g cap, e = .returned (.tuple #[.agg (did g cap).cells, .nilFunc]) ∧ Keeps (b :: l) w1 w' ∧ MemAt w' bm bw ms ∧ Blk w' b (vs' g cap) 80 ∧ P g cap w') (hl : w.heap.size ∉ l) (hcf : ∀ (args : Array Value) (w : World), (callFunc f args).run Try.prog w = .ok (.enter f args) w) :
    Calls Try.prog 16 #[.pointer (some ⟨b, 0, none⟩), .pointer (some ⟨bm, 0, none⟩), .int .i64 now] w (StepsEendE (b :: l) did P b bm bw ms (fun g cap => (vs' g cap).setIfInBounds 9 .nilFunc) 80 w) := by
  have hc : w.cell? ⟨b, 9, none⟩ = some (nextF f b) := (hb.cell 9).trans hnx
  have hlt := hb.lt
  unfold nextF at hc
  have hq : ∀ (fn : Fn) (fi ca : Array Value) (w : World), (binOp .eql 75 (.func fn fi ca) .nilFunc).run Try.prog w = .ok (.bool false) w := fun _ _ _ _ => by kernel_rfl
  have hf' := Lib.hid hf
  clear hf
  go_enter Try.func16, Try.ntmps16
  go_wp2_with fail
  refine (hf'.out _ rfl).mono ?_
  rintro e w1 ⟨g, cap, rfl, hk, hm, hb1, hP⟩
  have hv9g := hv9 g cap
  clear hv9
  generalize hD : did g cap = D at *
  obtain ⟨z0, z1, z2, z3, z4, z5, z6, z7, z8, z9, z10⟩ := D
  have HD := Lib.hid hD
  clear hD
  have hr1 : Blk w1 w.heap.size (DidV.cells {}) 53 := (Blk.new w _ _).keep hk (by simp; exact ⟨Nat.ne_of_gt hlt, hl⟩)
  have hkw : Keeps (b :: l) w w1 := ((Keeps.refl _ _).alloc _).trans hk
  have hc1 : w1.cell? ⟨b, 9, none⟩ = some v9 := (hb1.cell 9).trans hv9g
  have hf1 : ∀ j, w1.frozen? ⟨b, j, none⟩ = false := hb1.frozen
  have hl1 := hb1.lt
  have hrl := hr1.lt
  generalize hrb : w.heap.size = rb at *
  have Hrb := Lib.hid hrb
  have hr2 : ∀ j, w1.cell? ⟨rb, j, none⟩ = (DidV.cells {})[j]? := hr1.cell
  have hf2 : ∀ j, w1.frozen? ⟨rb, j, none⟩ = false := hr1.frozen
  have Hne : b ≠ rb := by omega
  have Hne' : rb ≠ b := by omega
  have HP := Lib.hid hP
  clear hv9g hrb hnx hc hcf hq hl hP
  simp only [DidV.cells] at hr2 ⊢
  go_wp2
  refine ret_did1 (did := ⟨z0, z1, z2, z3, z4, z5, z6, z7, z8, z9, z10⟩) rfl rfl rfl ?_ ⟨g, cap, w1, HP.out, ?_, ?_, ?_, ?_, ?_⟩
  · apply Exists.intro
    refine And.intro ?_ ?_
    · (repeat' (first | with_reducible (first | exact hr1 | apply Blk.drew | apply Blk.alloc | refine' Blk.other ?_ (by dsimp only; omega) _ | apply Blk.set)))
    · simp [DidV.cells]
  · rw [Hrb.out]; (repeat' (first | with_reducible (first | exact Keeps.refl _ _ | apply Keeps.drew | apply Keeps.alloc | (refine Keeps.setCell ?_ ?_ _; rotate_left; (first | (intro _; exact List.mem_cons_self) | (intro _; exact List.mem_cons_of_mem _ List.mem_cons_self))))))
  · rw [HD.out]
  · (repeat' (first | with_reducible (first | exact hkw | apply Keeps.drew | apply Keeps.alloc | (refine Keeps.setCell ?_ ?_ _; rotate_left; (first | (intro _; exact List.mem_cons_self) | (have := Hrb.out; dsimp only; omega))))))
  · (repeat' (first | with_reducible (first | exact hm | apply MemAt.drew | apply MemAt.alloc | refine MemAt.other ?_ (by dsimp only; omega) (by dsimp only; omega) _)))
  · (repeat' (first | with_reducible (first | exact hb1 | apply Blk.drew | apply Blk.alloc | refine Blk.other ?_ (by dsimp only; omega) _ | apply Blk.set)))

end Go.Proofs.Ytpkjffiajidfcaa

/- The steps of four's Writer. -/
namespace Go.Proofs.Ytpkjffiajidfcaa
open Go.RowKit

/-- The cells of a Writer. -/
@[go_sem] def wrCells (src rdg wds per : Int) (bd n cap : Nat) (pair index i : Int) (marked : Bool) (next : Value) : Array Value :=
  #[.int .i64 src, .int .i64 rdg, .int .i64 wds, .int .i64 per, .slice (some ⟨bd, 0, none⟩) n cap, .int .u32 pair, .int .u32 index, .int .i64 i, .bool marked, next]


theorem Wchoose_any (bm bw b bd n cap : Nat) (ms : List Int) (src rdg wds per pair index i : Int) (marked : Bool) (next : Value) (now : Int) (w : World)
    (h : MemAt w bm bw ms) (hb : Blk w b (wrCells src rdg wds per bd n cap pair index i marked next) 77) (n1 : b ≠ bm) (n2 : b ≠ bw)
    (h0 : 0 ≤ rdg) (h1 : rdg < ms.length) (hr0 : 0 ≤ rd ms rdg.toNat) (hr1 : rd ms rdg.toNat ≤ 4294967295) :
    Calls Try.prog 24 #[.pointer (some ⟨b, 0, none⟩), .pointer (some ⟨bm, 0, none⟩), .int .i64 now] w
      (Steps (.tuple #[.agg (DidV.cells {}), nextF 31 b]) b bm bw (ms) (wrCells src rdg wds per bd n cap (1 - rd ms rdg.toNat % 2) index i marked next) 77 w) := by
  have hl := h.len
  have hbc : ∀ j, w.cell? ⟨b, j, none⟩ = (wrCells src rdg wds per bd n cap pair index i marked next)[j]? := hb.cell
  have hbf : ∀ j, w.frozen? ⟨b, j, none⟩ = false := hb.frozen
  have hlt := hb.lt
  have hlt1 : b < w.heap.size + 1 := by omega
  have hlt2 : b < w.heap.size + 1 + 1 := by omega
  have hlt3 : b < w.heap.size + 1 + 1 + 1 := by omega
  have hlt4 : b < w.heap.size + 1 + 1 + 1 + 1 := by omega
  have hlw := h.hw.lt
  have n2' := n2.symm
  have hmf : ∀ (fn : Fn) (first cap : Array Value) (w : World), (Instr.makeFunc fn first cap).run Try.prog w = .ok (.func fn first cap) w := fun _ _ _ _ => rfl
  have n1' := n1.symm
  have hbit := lsb_eq _ hr0 hr1
  go_enter Try.func24, Try.ntmps24
  go_wp2_with (go_at_call 30; refine (load_yes bm bw ms _ _ (by repeat' with_reducible (first | exact h | apply MemAt.drew | apply MemAt.alloc | refine MemAt.other ?_ n1' n2' _ | apply MemAt.set)) (by omega) (by omega)).mono ?_; rintro e w' ⟨rfl, rfl⟩)
  all_goals
    refine bodyPost_ret (v := .tuple #[.agg (DidV.cells {}), nextF 31 b]) ?_ rfl ⟨rfl, ?_, ?_, ?_⟩
    · simp [results, Try.results24, go_sem, DidV.cells, nextF]
    · (repeat' with_reducible (first | exact Keeps.refl _ _ | apply Keeps.drew | apply Keeps.alloc | (refine Keeps.setCell ?_ (by simp) _) | (refine Keeps.setCell ?_ (by intro hh; exact absurd hh (by simp)) _)))
    · (repeat' with_reducible (first | exact h | exact h.set _ _ | apply MemAt.drew | apply MemAt.alloc | refine MemAt.other ?_ n1' n2' _ | apply MemAt.set))
    · (repeat' (first | with_reducible (first | exact hb | apply Blk.drew | apply Blk.alloc | refine Blk.other ?_ n2 _) | exact hb.set _ _))


theorem Wother_any (bm bw b bd n cap : Nat) (ms : List Int) (src rdg wds per pair index i : Int) (marked : Bool) (next : Value) (now : Int) (w : World)
    (h : MemAt w bm bw ms) (hb : Blk w b (wrCells src rdg wds per bd n cap pair index i marked next) 77) (n1 : b ≠ bm) (n2 : b ≠ bw)
    (hs0 : 0 ≤ src) (hw0 : 0 ≤ wds) (hp0 : 0 ≤ pair) (hp1 : pair ≤ 1) (hi0 : 0 ≤ index) (hi1 : index ≤ 1) (hin : src + 3 + 4 * (2 + wds) ≤ ms.length) (hr0 : 0 ≤ rd ms (src + 1 + pair).toNat) (hr1 : rd ms (src + 1 + pair).toNat ≤ 4294967295) :
    Calls Try.prog 31 #[.pointer (some ⟨b, 0, none⟩), .pointer (some ⟨bm, 0, none⟩), .int .i64 now] w
      (Steps (.tuple #[.agg (DidV.cells {}), nextF 39 b]) b bm bw (ms) (wrCells src rdg wds per bd n cap pair (1 - rd ms (src + 1 + pair).toNat % 2) i marked next) 77 w) := by
  have hl := h.len
  have hbc : ∀ j, w.cell? ⟨b, j, none⟩ = (wrCells src rdg wds per bd n cap pair index i marked next)[j]? := hb.cell
  have hbf : ∀ j, w.frozen? ⟨b, j, none⟩ = false := hb.frozen
  have hlt := hb.lt
  have hlt1 : b < w.heap.size + 1 := by omega
  have hlt2 : b < w.heap.size + 1 + 1 := by omega
  have hlt3 : b < w.heap.size + 1 + 1 + 1 := by omega
  have hlt4 : b < w.heap.size + 1 + 1 + 1 + 1 := by omega
  have hlw := h.hw.lt
  have n2' := n2.symm
  have hmf : ∀ (fn : Fn) (first cap : Array Value) (w : World), (Instr.makeFunc fn first cap).run Try.prog w = .ok (.func fn first cap) w := fun _ _ _ _ => rfl
  have n1' := n1.symm
  have hbit := lsb_eq _ hr0 hr1
  have hw1 : IntKind.u32.wrap (1 - rd ms (src + 1 + pair).toNat % 2) = 1 - rd ms (src + 1 + pair).toNat % 2 := wrap_u32 (by omega) (by omega)
  go_enter Try.func31, Try.ntmps31
  go_wp2_with fail
  go_region_held3 (fun w' => (∀ j, j ≠ 6 → w'.cell? ⟨b, j, none⟩ = (wrCells src rdg wds per bd n cap pair index i marked next)[j]?)) (first | (refine fun j _ => Blk.cell (t := 77) ?_ j; (repeat' with_reducible (first | exact hb | apply Blk.drew | apply Blk.alloc | refine Blk.other ?_ n2 _)); done) | (refine fun j hj => Blk.cell_set (t := 77) (i := 6) ?_ j hj; (repeat' with_reducible (first | exact ⟨_, hb.set _ _⟩ | apply Blk.drewEx | apply Blk.allocEx)); done))
    (first | (go_at_call 38; refine (slot_any src rdg wds per pair _ hs0 (by omega) hp0 hp1).mono ?_; rintro e w' ⟨rfl, rfl⟩) | (go_at_call 30; refine (load_yes bm bw ms _ _ (by repeat' with_reducible (first | exact h | apply MemAt.drew | apply MemAt.alloc | refine MemAt.other ?_ n1' n2' _ | apply MemAt.set)) (by omega) (by omega)).mono ?_; rintro e w' ⟨rfl, rfl⟩))
  go_wp2
  all_goals
    refine bodyPost_ret (v := .tuple #[.agg (DidV.cells {}), nextF 39 b]) ?_ rfl ⟨rfl, ?_, ?_, ?_⟩
    · simp [results, Try.results31, go_sem, DidV.cells, nextF]
    · (repeat' with_reducible (first | exact Keeps.refl _ _ | apply Keeps.drew | apply Keeps.alloc | (refine Keeps.setCell ?_ (by simp) _) | (refine Keeps.setCell ?_ (by intro hh; exact absurd hh (by simp)) _)))
    · (repeat' with_reducible (first | exact h | exact h.set _ _ | apply MemAt.drew | apply MemAt.alloc | refine MemAt.other ?_ n1' n2' _ | apply MemAt.set))
    · (repeat' (first | with_reducible (first | exact hb | apply Blk.drew | apply Blk.alloc | refine Blk.other ?_ n2 _) | exact hb.set _ _))


theorem Wlength_any (bm bw b bd n cap : Nat) (ms : List Int) (src rdg wds per pair index i : Int) (marked : Bool) (next : Value) (now : Int) (w : World)
    (h : MemAt w bm bw ms) (hb : Blk w b (wrCells src rdg wds per bd n cap pair index i marked next) 77) (n1 : b ≠ bm) (n2 : b ≠ bw)
    (hs0 : 0 ≤ src) (hw0 : 0 ≤ wds) (hp0 : 0 ≤ pair) (hp1 : pair ≤ 1) (hi0 : 0 ≤ index) (hi1 : index ≤ 1) (hin : src + 3 + 4 * (2 + wds) ≤ ms.length) (hn : n ≤ 65536) :
    Calls Try.prog 39 #[.pointer (some ⟨b, 0, none⟩), .pointer (some ⟨bm, 0, none⟩), .int .i64 now] w
      (Steps (.tuple #[.agg (DidV.cells { buffer := 1 + (2 * pair + index) }), nextF 50 b]) b bm bw (ms.set (src + 3 + (2 * pair + index) * (2 + wds)).toNat n) (wrCells src rdg wds per bd n cap pair index i marked next) 77 w) := by
  have hl := h.len
  have hbc : ∀ j, w.cell? ⟨b, j, none⟩ = (wrCells src rdg wds per bd n cap pair index i marked next)[j]? := hb.cell
  have hbf : ∀ j, w.frozen? ⟨b, j, none⟩ = false := hb.frozen
  have hlt := hb.lt
  have hlt1 : b < w.heap.size + 1 := by omega
  have hlt2 : b < w.heap.size + 1 + 1 := by omega
  have hlt3 : b < w.heap.size + 1 + 1 + 1 := by omega
  have hlt4 : b < w.heap.size + 1 + 1 + 1 + 1 := by omega
  have hlw := h.hw.lt
  have n2' := n2.symm
  have hmf : ∀ (fn : Fn) (first cap : Array Value) (w : World), (Instr.makeFunc fn first cap).run Try.prog w = .ok (.func fn first cap) w := fun _ _ _ _ => rfl
  have n1' := n1.symm
  have k0 : 0 ≤ (2 * pair + index) * (2 + wds) := Int.mul_nonneg (by omega) (by omega)
  have k1 : (2 * pair + index) * (2 + wds) ≤ 3 * (2 + wds) := Int.mul_le_mul_of_nonneg_right (by omega) (by omega)
  have hwn : IntKind.u32.wrap (n : Int) = n := wrap_u32 (by omega) (by omega)
  have hw1 : IntKind.u32.wrap (2 * pair) = 2 * pair := wrap_u32 (by omega) (by omega)
  have hw2 : IntKind.u32.wrap (2 * pair + index) = 2 * pair + index := wrap_u32 (by omega) (by omega)
  have hw3 : IntKind.i64.wrap (2 * pair + index) = 2 * pair + index := wrap_i64 (by omega) (by omega)
  have hw4 : IntKind.i64.wrap (1 + (2 * pair + index)) = 1 + (2 * pair + index) := wrap_i64 (by omega) (by omega)
  go_enter Try.func39, Try.ntmps39
  go_wp2_with fail
  go_region_held3 (fun w' => (∀ j, w'.cell? ⟨b, j, none⟩ = (wrCells src rdg wds per bd n cap pair index i marked next)[j]?)) (first | (refine Blk.cell (t := 77) ?_; (repeat' with_reducible (first | exact hb | apply Blk.drew | apply Blk.alloc | refine Blk.other ?_ n2 _))))
    (first | (go_at_call 49; refine (buffer_any src rdg wds per pair index _ hs0 (by omega) hw0 (by omega) hp0 hp1 hi0 hi1).mono ?_; rintro e w' ⟨rfl, rfl⟩) | (go_at_call 40; refine (store_yes bm bw ms _ _ _ (by repeat' with_reducible (first | exact h | apply MemAt.drew | apply MemAt.alloc | refine MemAt.other ?_ n1' n2' _ | apply MemAt.set)) (by omega) (by omega)).mono ?_; rintro e w' ⟨rfl, rfl⟩))
  go_wp2_with fail
  go_region_held3 (fun w' => (∀ j, w'.cell? ⟨b, j, none⟩ = (wrCells src rdg wds per bd n cap pair index i marked next)[j]?)) (first | (refine Blk.cell (t := 77) ?_; (repeat' with_reducible (first | exact hb | apply Blk.drew | apply Blk.alloc | refine Blk.other ?_ n2 _))))
    (fail)
  go_wp2
  all_goals
    refine bodyPost_ret (v := .tuple #[.agg (DidV.cells { buffer := 1 + (2 * pair + index) }), nextF 50 b]) ?_ rfl ⟨rfl, ?_, ?_, ?_⟩
    · simp [results, Try.results39, go_sem, DidV.cells, nextF]
    · (repeat' with_reducible (first | exact Keeps.refl _ _ | apply Keeps.drew | apply Keeps.alloc | (refine Keeps.setCell ?_ (by simp) _) | (refine Keeps.setCell ?_ (by intro hh; exact absurd hh (by simp)) _)))
    · (repeat' with_reducible (first | exact h | exact h.set _ _ | apply MemAt.drew | apply MemAt.alloc | refine MemAt.other ?_ n1' n2' _ | apply MemAt.set))
    · (repeat' (first | with_reducible (first | exact hb | apply Blk.drew | apply Blk.alloc | refine Blk.other ?_ n2 _) | exact hb.set _ _))


theorem Wstamp_any (bm bw b bd n cap : Nat) (ms : List Int) (src rdg wds per pair index i : Int) (marked : Bool) (next : Value) (now : Int) (w : World)
    (h : MemAt w bm bw ms) (hb : Blk w b (wrCells src rdg wds per bd n cap pair index i marked next) 77) (n1 : b ≠ bm) (n2 : b ≠ bw)
    (hs0 : 0 ≤ src) (hw0 : 0 ≤ wds) (hp0 : 0 ≤ pair) (hp1 : pair ≤ 1) (hi0 : 0 ≤ index) (hi1 : index ≤ 1) (hin : src + 3 + 4 * (2 + wds) ≤ ms.length) (hn0 : 0 ≤ now) (hn1 : now ≤ 4294967295) :
    Calls Try.prog 50 #[.pointer (some ⟨b, 0, none⟩), .pointer (some ⟨bm, 0, none⟩), .int .i64 now] w
      (Steps (.tuple #[.agg (DidV.cells { stamped := true }), nextF 56 b]) b bm bw (ms.set (src + 3 + (2 * pair + index) * (2 + wds) + 1).toNat now) (wrCells src rdg wds per bd n cap pair index i marked next) 77 w) := by
  have hl := h.len
  have hbc : ∀ j, w.cell? ⟨b, j, none⟩ = (wrCells src rdg wds per bd n cap pair index i marked next)[j]? := hb.cell
  have hbf : ∀ j, w.frozen? ⟨b, j, none⟩ = false := hb.frozen
  have hlt := hb.lt
  have hlt1 : b < w.heap.size + 1 := by omega
  have hlt2 : b < w.heap.size + 1 + 1 := by omega
  have hlt3 : b < w.heap.size + 1 + 1 + 1 := by omega
  have hlt4 : b < w.heap.size + 1 + 1 + 1 + 1 := by omega
  have hlw := h.hw.lt
  have n2' := n2.symm
  have hmf : ∀ (fn : Fn) (first cap : Array Value) (w : World), (Instr.makeFunc fn first cap).run Try.prog w = .ok (.func fn first cap) w := fun _ _ _ _ => rfl
  have n1' := n1.symm
  have k0 : 0 ≤ (2 * pair + index) * (2 + wds) := Int.mul_nonneg (by omega) (by omega)
  have k1 : (2 * pair + index) * (2 + wds) ≤ 3 * (2 + wds) := Int.mul_le_mul_of_nonneg_right (by omega) (by omega)
  have hwn : IntKind.u32.wrap now = now := wrap_u32 (by omega) (by omega)
  have hw1 : IntKind.i64.wrap (src + 3 + (2 * pair + index) * (2 + wds) + 1) = src + 3 + (2 * pair + index) * (2 + wds) + 1 := wrap_i64 (by omega) (by omega)
  go_enter Try.func50, Try.ntmps50
  go_wp2_with fail
  go_region_held3 (fun w' => (∀ j, w'.cell? ⟨b, j, none⟩ = (wrCells src rdg wds per bd n cap pair index i marked next)[j]?)) (first | (refine Blk.cell (t := 77) ?_; (repeat' with_reducible (first | exact hb | apply Blk.drew | apply Blk.alloc | refine Blk.other ?_ n2 _))))
    (first | (go_at_call 49; refine (buffer_any src rdg wds per pair index _ hs0 (by omega) hw0 (by omega) hp0 hp1 hi0 hi1).mono ?_; rintro e w' ⟨rfl, rfl⟩) | (go_at_call 40; refine (store_yes bm bw ms _ _ _ (by repeat' with_reducible (first | exact h | apply MemAt.drew | apply MemAt.alloc | refine MemAt.other ?_ n1' n2' _ | apply MemAt.set)) (by omega) (by omega)).mono ?_; rintro e w' ⟨rfl, rfl⟩))
  go_wp2
  all_goals
    refine bodyPost_ret (v := .tuple #[.agg (DidV.cells { stamped := true }), nextF 56 b]) ?_ rfl ⟨rfl, ?_, ?_, ?_⟩
    · simp [results, Try.results50, go_sem, DidV.cells, nextF]
    · (repeat' with_reducible (first | exact Keeps.refl _ _ | apply Keeps.drew | apply Keeps.alloc | (refine Keeps.setCell ?_ (by simp) _) | (refine Keeps.setCell ?_ (by intro hh; exact absurd hh (by simp)) _)))
    · (repeat' with_reducible (first | exact h | exact h.set _ _ | apply MemAt.drew | apply MemAt.alloc | refine MemAt.other ?_ n1' n2' _ | apply MemAt.set))
    · (repeat' (first | with_reducible (first | exact hb | apply Blk.drew | apply Blk.alloc | refine Blk.other ?_ n2 _) | exact hb.set _ _))


theorem Wword_more (bm bw b bd n cap : Nat) (dv : Array Value) (x : Int) (ms : List Int) (src rdg wds per pair index i : Int) (marked : Bool) (next : Value) (now : Int) (w : World)
    (h : MemAt w bm bw ms) (hb : Blk w b (wrCells src rdg wds per bd n cap pair index i marked next) 77) (n1 : b ≠ bm) (n2 : b ≠ bw)
    (hs0 : 0 ≤ src) (hw0 : 0 ≤ wds) (hp0 : 0 ≤ pair) (hp1 : pair ≤ 1) (hi0 : 0 ≤ index) (hi1 : index ≤ 1) (hin : src + 3 + 4 * (2 + wds) ≤ ms.length) (hbd : Blk w bd dv 41) (nbd : bd ≠ bw) (nbd2 : bd ≠ b) (hi2 : 0 ≤ i) (hi3 : i < n) (hx : dv[i.toNat]? = some (.int .u32 x)) (hwd : n ≤ wds) (hmore : i + 1 < n) :
    Calls Try.prog 56 #[.pointer (some ⟨b, 0, none⟩), .pointer (some ⟨bm, 0, none⟩), .int .i64 now] w
      (Steps (.tuple #[.agg (DidV.cells {}), nextF 56 b]) b bm bw (ms.set (src + 3 + (2 * pair + index) * (2 + wds) + 2 + i).toNat x) (wrCells src rdg wds per bd n cap pair index (i + 1) marked next) 77 w) := by
  have hl := h.len
  have hbc : ∀ j, w.cell? ⟨b, j, none⟩ = (wrCells src rdg wds per bd n cap pair index i marked next)[j]? := hb.cell
  have hbf : ∀ j, w.frozen? ⟨b, j, none⟩ = false := hb.frozen
  have hlt := hb.lt
  have hlt1 : b < w.heap.size + 1 := by omega
  have hlt2 : b < w.heap.size + 1 + 1 := by omega
  have hlt3 : b < w.heap.size + 1 + 1 + 1 := by omega
  have hlt4 : b < w.heap.size + 1 + 1 + 1 + 1 := by omega
  have hlw := h.hw.lt
  have n2' := n2.symm
  have hmf : ∀ (fn : Fn) (first cap : Array Value) (w : World), (Instr.makeFunc fn first cap).run Try.prog w = .ok (.func fn first cap) w := fun _ _ _ _ => rfl
  have n1' := n1.symm
  have k0 : 0 ≤ (2 * pair + index) * (2 + wds) := Int.mul_nonneg (by omega) (by omega)
  have k1 : (2 * pair + index) * (2 + wds) ≤ 3 * (2 + wds) := Int.mul_le_mul_of_nonneg_right (by omega) (by omega)
  have hlbd := hbd.lt
  have hdec : decide (i + 1 < (n : Int)) = true := by simp; omega
  have hw1 : IntKind.i64.wrap (src + 3 + (2 * pair + index) * (2 + wds) + 2) = src + 3 + (2 * pair + index) * (2 + wds) + 2 := wrap_i64 (by omega) (by omega)
  have hw2 : IntKind.i64.wrap (src + 3 + (2 * pair + index) * (2 + wds) + 2 + i) = src + 3 + (2 * pair + index) * (2 + wds) + 2 + i := wrap_i64 (by omega) (by omega)
  go_enter Try.func56, Try.ntmps56
  go_wp2_with fail
  go_region_held3 (fun w' => (∀ j, w'.cell? ⟨b, j, none⟩ = (wrCells src rdg wds per bd n cap pair index i marked next)[j]?) ∧ w'.cell? ⟨bd, i.toNat, none⟩ = dv[i.toNat]?) (first | (refine ⟨Blk.cell (t := 77) ?_, Blk.cell (t := 41) ?_ _⟩ <;> (first | ((repeat' with_reducible (first | exact hb | apply Blk.drew | apply Blk.alloc | refine Blk.other ?_ n2 _)); done) | ((repeat' with_reducible (first | exact hbd | apply Blk.drew | apply Blk.alloc | refine Blk.other ?_ nbd _)); done))))
    (first | (go_at_call 49; refine (buffer_any src rdg wds per pair index _ hs0 (by omega) hw0 (by omega) hp0 hp1 hi0 hi1).mono ?_; rintro e w' ⟨rfl, rfl⟩) | (go_at_call 40; refine (store_yes bm bw ms _ _ _ (by repeat' with_reducible (first | exact h | apply MemAt.drew | apply MemAt.alloc | refine MemAt.other ?_ n1' n2' _ | apply MemAt.set)) (by omega) (by omega)).mono ?_; rintro e w' ⟨rfl, rfl⟩))
  go_wp2_with fail
  go_outline
  go_region_held3 (fun w' => ∀ j, w'.cell? ⟨b, j, none⟩ = (wrCells src rdg wds per bd n cap pair index (i + 1) marked next)[j]?) (first | (refine Blk.cell (t := 77) ?_; (repeat' (first | with_reducible (first | exact hb | apply Blk.drew | apply Blk.alloc | refine Blk.other ?_ n2 _) | refine Blk.setTo (vs := wrCells src rdg wds per bd n cap pair index i marked next) ?_ rfl))))
    (fail)
  go_wp2
  all_goals
    refine bodyPost_ret (v := .tuple #[.agg (DidV.cells {}), nextF 56 b]) ?_ rfl ⟨rfl, ?_, ?_, ?_⟩
    · simp [results, Try.results56, go_sem, DidV.cells, nextF]
    · (repeat' with_reducible (first | exact Keeps.refl _ _ | apply Keeps.drew | apply Keeps.alloc | (refine Keeps.setCell ?_ (by simp) _) | (refine Keeps.setCell ?_ (by intro hh; exact absurd hh (by simp)) _)))
    · (repeat' with_reducible (first | exact h | exact h.set _ _ | apply MemAt.drew | apply MemAt.alloc | refine MemAt.other ?_ n1' n2' _ | apply MemAt.set))
    · (repeat' (first | with_reducible (first | exact hb | apply Blk.drew | apply Blk.alloc | refine Blk.other ?_ n2 _) | refine Blk.setTo (vs := wrCells src rdg wds per bd n cap pair index i marked next) ?_ rfl))


theorem Wword_last (bm bw b bd n cap : Nat) (dv : Array Value) (x : Int) (ms : List Int) (src rdg wds per pair index i : Int) (marked : Bool) (next : Value) (now : Int) (w : World)
    (h : MemAt w bm bw ms) (hb : Blk w b (wrCells src rdg wds per bd n cap pair index i marked next) 77) (n1 : b ≠ bm) (n2 : b ≠ bw)
    (hs0 : 0 ≤ src) (hw0 : 0 ≤ wds) (hp0 : 0 ≤ pair) (hp1 : pair ≤ 1) (hi0 : 0 ≤ index) (hi1 : index ≤ 1) (hin : src + 3 + 4 * (2 + wds) ≤ ms.length) (hbd : Blk w bd dv 41) (nbd : bd ≠ bw) (nbd2 : bd ≠ b) (hi2 : 0 ≤ i) (hi3 : i < n) (hx : dv[i.toNat]? = some (.int .u32 x)) (hwd : n ≤ wds) (hlast : ¬ i + 1 < n) :
    Calls Try.prog 56 #[.pointer (some ⟨b, 0, none⟩), .pointer (some ⟨bm, 0, none⟩), .int .i64 now] w
      (Steps (.tuple #[.agg (DidV.cells {}), nextF 59 b]) b bm bw (ms.set (src + 3 + (2 * pair + index) * (2 + wds) + 2 + i).toNat x) (wrCells src rdg wds per bd n cap pair index (i + 1) marked next) 77 w) := by
  have hl := h.len
  have hbc : ∀ j, w.cell? ⟨b, j, none⟩ = (wrCells src rdg wds per bd n cap pair index i marked next)[j]? := hb.cell
  have hbf : ∀ j, w.frozen? ⟨b, j, none⟩ = false := hb.frozen
  have hlt := hb.lt
  have hlt1 : b < w.heap.size + 1 := by omega
  have hlt2 : b < w.heap.size + 1 + 1 := by omega
  have hlt3 : b < w.heap.size + 1 + 1 + 1 := by omega
  have hlt4 : b < w.heap.size + 1 + 1 + 1 + 1 := by omega
  have hlw := h.hw.lt
  have n2' := n2.symm
  have hmf : ∀ (fn : Fn) (first cap : Array Value) (w : World), (Instr.makeFunc fn first cap).run Try.prog w = .ok (.func fn first cap) w := fun _ _ _ _ => rfl
  have n1' := n1.symm
  have k0 : 0 ≤ (2 * pair + index) * (2 + wds) := Int.mul_nonneg (by omega) (by omega)
  have k1 : (2 * pair + index) * (2 + wds) ≤ 3 * (2 + wds) := Int.mul_le_mul_of_nonneg_right (by omega) (by omega)
  have hlbd := hbd.lt
  have hdec : decide (i + 1 < (n : Int)) = false := by simp; omega
  have hw1 : IntKind.i64.wrap (src + 3 + (2 * pair + index) * (2 + wds) + 2) = src + 3 + (2 * pair + index) * (2 + wds) + 2 := wrap_i64 (by omega) (by omega)
  have hw2 : IntKind.i64.wrap (src + 3 + (2 * pair + index) * (2 + wds) + 2 + i) = src + 3 + (2 * pair + index) * (2 + wds) + 2 + i := wrap_i64 (by omega) (by omega)
  go_enter Try.func56, Try.ntmps56
  go_wp2_with fail
  go_region_held3 (fun w' => (∀ j, w'.cell? ⟨b, j, none⟩ = (wrCells src rdg wds per bd n cap pair index i marked next)[j]?) ∧ w'.cell? ⟨bd, i.toNat, none⟩ = dv[i.toNat]?) (first | (refine ⟨Blk.cell (t := 77) ?_, Blk.cell (t := 41) ?_ _⟩ <;> (first | ((repeat' with_reducible (first | exact hb | apply Blk.drew | apply Blk.alloc | refine Blk.other ?_ n2 _)); done) | ((repeat' with_reducible (first | exact hbd | apply Blk.drew | apply Blk.alloc | refine Blk.other ?_ nbd _)); done))))
    (first | (go_at_call 49; refine (buffer_any src rdg wds per pair index _ hs0 (by omega) hw0 (by omega) hp0 hp1 hi0 hi1).mono ?_; rintro e w' ⟨rfl, rfl⟩) | (go_at_call 40; refine (store_yes bm bw ms _ _ _ (by repeat' with_reducible (first | exact h | apply MemAt.drew | apply MemAt.alloc | refine MemAt.other ?_ n1' n2' _ | apply MemAt.set)) (by omega) (by omega)).mono ?_; rintro e w' ⟨rfl, rfl⟩))
  go_wp2_with fail
  go_outline
  go_region_held3 (fun w' => ∀ j, w'.cell? ⟨b, j, none⟩ = (wrCells src rdg wds per bd n cap pair index (i + 1) marked next)[j]?) (first | (refine Blk.cell (t := 77) ?_; (repeat' (first | with_reducible (first | exact hb | apply Blk.drew | apply Blk.alloc | refine Blk.other ?_ n2 _) | refine Blk.setTo (vs := wrCells src rdg wds per bd n cap pair index i marked next) ?_ rfl))))
    (fail)
  go_wp2
  all_goals
    refine bodyPost_ret (v := .tuple #[.agg (DidV.cells {}), nextF 59 b]) ?_ rfl ⟨rfl, ?_, ?_, ?_⟩
    · simp [results, Try.results56, go_sem, DidV.cells, nextF]
    · (repeat' with_reducible (first | exact Keeps.refl _ _ | apply Keeps.drew | apply Keeps.alloc | (refine Keeps.setCell ?_ (by simp) _) | (refine Keeps.setCell ?_ (by intro hh; exact absurd hh (by simp)) _)))
    · (repeat' with_reducible (first | exact h | exact h.set _ _ | apply MemAt.drew | apply MemAt.alloc | refine MemAt.other ?_ n1' n2' _ | apply MemAt.set))
    · (repeat' (first | with_reducible (first | exact hb | apply Blk.drew | apply Blk.alloc | refine Blk.other ?_ n2 _) | refine Blk.setTo (vs := wrCells src rdg wds per bd n cap pair index i marked next) ?_ rfl))

end Go.Proofs.Ytpkjffiajidfcaa

/- The steps of four's Writer. -/
namespace Go.Proofs.Ytpkjffiajidfcaa
open Go.RowKit



theorem Wshow_any (bm bw b bd n cap : Nat) (ms : List Int) (src rdg wds per pair index i : Int) (marked : Bool) (next : Value) (now : Int) (w : World)
    (h : MemAt w bm bw ms) (hb : Blk w b (wrCells src rdg wds per bd n cap pair index i marked next) 77) (n1 : b ≠ bm) (n2 : b ≠ bw)
    (hs0 : 0 ≤ src) (hw0 : 0 ≤ wds) (hp0 : 0 ≤ pair) (hp1 : pair ≤ 1) (hi0 : 0 ≤ index) (hi1 : index ≤ 1) (hin : src + 3 + 4 * (2 + wds) ≤ ms.length) (hr0 : 0 ≤ rd ms src.toNat) (hr1 : rd ms src.toNat ≤ 4294967295) :
    Calls Try.prog 59 #[.pointer (some ⟨b, 0, none⟩), .pointer (some ⟨bm, 0, none⟩), .int .i64 now] w
      (Steps (.tuple #[.agg (DidV.cells { mark := (rd ms src.toNat % 2 == pair) }), nextF 63 b]) b bm bw (ms.set (src + 1 + pair).toNat index) (wrCells src rdg wds per bd n cap pair index i (rd ms src.toNat % 2 == pair) next) 77 w) := by
  have hl := h.len
  have hbc : ∀ j, w.cell? ⟨b, j, none⟩ = (wrCells src rdg wds per bd n cap pair index i marked next)[j]? := hb.cell
  have hbf : ∀ j, w.frozen? ⟨b, j, none⟩ = false := hb.frozen
  have hlt := hb.lt
  have hlt1 : b < w.heap.size + 1 := by omega
  have hlt2 : b < w.heap.size + 1 + 1 := by omega
  have hlt3 : b < w.heap.size + 1 + 1 + 1 := by omega
  have hlt4 : b < w.heap.size + 1 + 1 + 1 + 1 := by omega
  have hlw := h.hw.lt
  have n2' := n2.symm
  have hmf : ∀ (fn : Fn) (first cap : Array Value) (w : World), (Instr.makeFunc fn first cap).run Try.prog w = .ok (.func fn first cap) w := fun _ _ _ _ => rfl
  have n1' := n1.symm
  have hbit := lsb_eq _ hr0 hr1
  go_enter Try.func59, Try.ntmps59
  go_wp2_with fail
  go_region_held3 (fun w' => (∀ j, j ≠ 8 → w'.cell? ⟨b, j, none⟩ = (wrCells src rdg wds per bd n cap pair index i marked next)[j]?)) (first | (refine fun j _ => Blk.cell (t := 77) ?_ j; (repeat' with_reducible (first | exact hb | apply Blk.drew | apply Blk.alloc | refine Blk.other ?_ n2 _)); done) | (refine fun j hj => Blk.cell_set (t := 77) (i := 8) ?_ j hj; (repeat' with_reducible (first | exact ⟨_, hb.set _ _⟩ | apply Blk.drewEx | apply Blk.allocEx)); done))
    (first | (go_at_call 30; refine (load_yes bm bw ms _ _ (by repeat' with_reducible (first | exact h | apply MemAt.drew | apply MemAt.alloc | refine MemAt.other ?_ n1' n2' _ | apply MemAt.set)) (by omega) (by omega)).mono ?_; rintro e w' ⟨rfl, rfl⟩))
  go_wp2_with fail
  go_region_held3 (fun w' => ∀ j, w'.cell? ⟨b, j, none⟩ = (wrCells src rdg wds per bd n cap pair index i (rd ms src.toNat % 2 == pair) next)[j]?) (first | (refine Blk.cell (t := 77) ?_; (repeat' (first | with_reducible (first | exact hb | apply Blk.drew | apply Blk.alloc | refine Blk.other ?_ n2 _) | refine Blk.setTo (vs := wrCells src rdg wds per bd n cap pair index i marked next) ?_ rfl))))
    (first | (go_at_call 38; refine (slot_any src rdg wds per pair _ hs0 (by omega) hp0 hp1).mono ?_; rintro e w' ⟨rfl, rfl⟩) | (go_at_call 40; refine (store_yes bm bw ms _ _ _ (by repeat' with_reducible (first | exact h | apply MemAt.drew | apply MemAt.alloc | refine MemAt.other ?_ n1' n2' _ | apply MemAt.set)) (by omega) (by omega)).mono ?_; rintro e w' ⟨rfl, rfl⟩))
  go_wp2
  all_goals
    refine bodyPost_ret (v := .tuple #[.agg (DidV.cells { mark := (rd ms src.toNat % 2 == pair) }), nextF 63 b]) ?_ rfl ⟨rfl, ?_, ?_, ?_⟩
    · simp [results, Try.results59, go_sem, DidV.cells, nextF]
    · (repeat' with_reducible (first | exact Keeps.refl _ _ | apply Keeps.drew | apply Keeps.alloc | (refine Keeps.setCell ?_ (by simp) _) | (refine Keeps.setCell ?_ (by intro hh; exact absurd hh (by simp)) _)))
    · (repeat' with_reducible (first | exact h | exact h.set _ _ | apply MemAt.drew | apply MemAt.alloc | refine MemAt.other ?_ n1' n2' _ | apply MemAt.set))
    · (repeat' (first | with_reducible (first | exact hb | apply Blk.drew | apply Blk.alloc | refine Blk.other ?_ n2 _) | refine Blk.setTo (vs := wrCells src rdg wds per bd n cap pair index i marked next) ?_ rfl))


theorem Wend_any (bm bw b bd n cap : Nat) (ms : List Int) (src rdg wds per pair index i : Int) (marked : Bool) (next : Value) (now : Int) (w : World)
    (h : MemAt w bm bw ms) (hb : Blk w b (wrCells src rdg wds per bd n cap pair index i marked next) 77) (n1 : b ≠ bm) (n2 : b ≠ bw)
    (hs0 : 0 ≤ src) (hw0 : 0 ≤ wds) (hp0 : 0 ≤ pair) (hp1 : pair ≤ 1) (hi0 : 0 ≤ index) (hi1 : index ≤ 1) (hin : src + 3 + 4 * (2 + wds) ≤ ms.length) :
    Calls Try.prog 63 #[.pointer (some ⟨b, 0, none⟩), .pointer (some ⟨bm, 0, none⟩), .int .i64 now] w
      (Steps (.tuple #[.agg (DidV.cells { done := true, mark := !marked }), .nilFunc]) b bm bw (ms.set src.toNat pair) (wrCells src rdg wds per bd n cap pair index i marked next) 77 w) := by
  have hl := h.len
  have hbc : ∀ j, w.cell? ⟨b, j, none⟩ = (wrCells src rdg wds per bd n cap pair index i marked next)[j]? := hb.cell
  have hbf : ∀ j, w.frozen? ⟨b, j, none⟩ = false := hb.frozen
  have hlt := hb.lt
  have hlt1 : b < w.heap.size + 1 := by omega
  have hlt2 : b < w.heap.size + 1 + 1 := by omega
  have hlt3 : b < w.heap.size + 1 + 1 + 1 := by omega
  have hlt4 : b < w.heap.size + 1 + 1 + 1 + 1 := by omega
  have hlw := h.hw.lt
  have n2' := n2.symm
  have hmf : ∀ (fn : Fn) (first cap : Array Value) (w : World), (Instr.makeFunc fn first cap).run Try.prog w = .ok (.func fn first cap) w := fun _ _ _ _ => rfl
  have n1' := n1.symm
  go_enter Try.func63, Try.ntmps63
  go_wp2_with fail
  go_region_held3 (fun w' => (∀ j, w'.cell? ⟨b, j, none⟩ = (wrCells src rdg wds per bd n cap pair index i marked next)[j]?)) (first | (refine Blk.cell (t := 77) ?_; (repeat' with_reducible (first | exact hb | apply Blk.drew | apply Blk.alloc | refine Blk.other ?_ n2 _))))
    (first | (go_at_call 40; refine (store_yes bm bw ms _ _ _ (by repeat' with_reducible (first | exact h | apply MemAt.drew | apply MemAt.alloc | refine MemAt.other ?_ n1' n2' _ | apply MemAt.set)) (by omega) (by omega)).mono ?_; rintro e w' ⟨rfl, rfl⟩))
  go_wp2
  all_goals
    refine bodyPost_ret (v := .tuple #[.agg (DidV.cells { done := true, mark := !marked }), .nilFunc]) ?_ rfl ⟨rfl, ?_, ?_, ?_⟩
    · simp [results, Try.results63, go_sem, DidV.cells]
    · (repeat' with_reducible (first | exact Keeps.refl _ _ | apply Keeps.drew | apply Keeps.alloc | (refine Keeps.setCell ?_ (by simp) _) | (refine Keeps.setCell ?_ (by intro hh; exact absurd hh (by simp)) _)))
    · (repeat' with_reducible (first | exact h | exact h.set _ _ | apply MemAt.drew | apply MemAt.alloc | refine MemAt.other ?_ n1' n2' _ | apply MemAt.set))
    · (repeat' (first | with_reducible (first | exact hb | apply Blk.drew | apply Blk.alloc | refine Blk.other ?_ n2 _) | exact hb.set _ _))

end Go.Proofs.Ytpkjffiajidfcaa

/- One step of a write, whatever step it is: as a function on a list of words. -/
namespace Go.Proofs.Ytpkjffiajidfcaa
open Go.RowKit

/-- Where a write stands: 0 choose, 1 other, 2 length, 3 stamp, 4 word, 5 show, 6 end, 7 done. -/
structure WSt where
  stage : Nat
  pair : Int
  index : Int
  i : Int
  marked : Bool

def wnext (stage b : Nat) : Value :=
  match stage with
  | 0 => nextF 24 b
  | 1 => nextF 31 b
  | 2 => nextF 39 b
  | 3 => nextF 50 b
  | 4 => nextF 56 b
  | 5 => nextF 59 b
  | 6 => nextF 63 b
  | _ => .nilFunc

/-- The place of a buffer's first word. -/
def bufAt (src wds pair index : Int) : Int := src + 3 + (2 * pair + index) * (2 + wds)

def wstep (src rdg wds : Int) (n : Nat) (xs : List Int) (s : WSt) (ms : List Int) (now : Int) : DidV × WSt × List Int :=
  match s.stage with
  | 0 => ({}, { s with stage := 1, pair := 1 - rd ms rdg.toNat % 2 }, ms)
  | 1 => ({}, { s with stage := 2, index := 1 - rd ms (src + 1 + s.pair).toNat % 2 }, ms)
  | 2 => ({ buffer := 1 + (2 * s.pair + s.index) }, { s with stage := 3 }, ms.set (bufAt src wds s.pair s.index).toNat n)
  | 3 => ({ stamped := true }, { s with stage := 4 }, ms.set (bufAt src wds s.pair s.index + 1).toNat now)
  | 4 => ({}, { s with stage := if s.i + 1 < n then 4 else 5, i := s.i + 1 }, ms.set (bufAt src wds s.pair s.index + 2 + s.i).toNat (rd xs s.i.toNat))
  | 5 => ({ mark := rd ms src.toNat % 2 == s.pair }, { s with stage := 6, marked := rd ms src.toNat % 2 == s.pair }, ms.set (src + 1 + s.pair).toNat s.index)
  | 6 => ({ done := true, mark := !s.marked }, { s with stage := 7 }, ms.set src.toNat s.pair)
  | _ => ({}, s, ms)

/-- The words of a memory are 32-bit words. -/
def MsOk (ms : List Int) : Prop := ∀ i, 0 ≤ rd ms i ∧ rd ms i ≤ 4294967295

/-- A channel's places lie in the memory. -/
structure Geo (src rdg wds : Int) (ms : List Int) : Prop where
  src0 : 0 ≤ src
  rdg0 : 0 ≤ rdg
  rdg1 : rdg < ms.length
  wds0 : 0 ≤ wds
  wds1 : wds ≤ 16
  fits : src + 3 + 4 * (2 + wds) ≤ ms.length

structure WOk (wds : Int) (n : Nat) (s : WSt) : Prop where
  pair0 : 0 ≤ s.pair
  pair1 : s.pair ≤ 1
  index0 : 0 ≤ s.index
  index1 : s.index ≤ 1
  i0 : 0 ≤ s.i
  i1 : s.stage ≤ 4 → s.i < n
  n1 : n ≤ wds

structure WrAt (w : World) (b bd n cap : Nat) (src rdg wds per : Int) (xs : List Int) (s : WSt) : Prop where
  obj : Blk w b (wrCells src rdg wds per bd n cap s.pair s.index s.i s.marked (wnext s.stage b)) 77
  data : ∃ dv, Blk w bd dv 41 ∧ ∀ i, i < n → dv[i]? = some (.int .u32 (rd xs i))
  ne : b ≠ bd

theorem WrAt.keep {l : List Nat} {w w' : World} {b bd n cap : Nat} {src rdg wds per : Int} {xs : List Int} {s : WSt} (h : WrAt w b bd n cap src rdg wds per xs s) (k : Keeps l w w') (h1 : b ∉ l) (h2 : bd ∉ l) : WrAt w' b bd n cap src rdg wds per xs s :=
  ⟨h.obj.keep k h1, h.data.elim fun dv hd => ⟨dv, hd.1.keep k h2, hd.2⟩, h.ne⟩

theorem wrCells_9 (src rdg wds per : Int) (bd n cap : Nat) (pair index i : Int) (marked : Bool) (next v : Value) : (wrCells src rdg wds per bd n cap pair index i marked next).setIfInBounds 9 v = wrCells src rdg wds per bd n cap pair index i marked v := rfl

/-- What a step of a write leaves. -/
def WStepped (l : List Nat) (did : DidV) (b bm bw bd n cap : Nat) (src rdg wds per : Int) (xs : List Int) (s : WSt) (ms : List Int) (w : World) (e : Ending) (w' : World) : Prop :=
  e = .returned (.agg did.cells) ∧ Keeps l w w' ∧ MemAt w' bm bw ms ∧ WrAt w' b bd n cap src rdg wds per xs s


theorem WStep_any (b bm bw bd n cap : Nat) (src rdg wds per : Int) (xs : List Int) (s : WSt) (ms : List Int) (now : Int) (w : World)
    (hm : MemAt w bm bw ms) (hw : WrAt w b bd n cap src rdg wds per xs s) (hms : MsOk ms) (hg : Geo src rdg wds ms) (ho : WOk wds n s) (hn0 : 0 ≤ now) (hn1 : now ≤ 4294967295) (n1 : b ≠ bm) (n2 : b ≠ bw) (n3 : bd ≠ bw) :
    Calls Try.prog 14 #[.pointer (some ⟨b, 0, none⟩), .pointer (some ⟨bm, 0, none⟩), .int .i64 now] w
      (WStepped [b, bw] (wstep src rdg wds n xs s ms now).1 b bm bw bd n cap src rdg wds per xs (wstep src rdg wds n xs s ms now).2.1 (wstep src rdg wds n xs s ms now).2.2 w) := by
  obtain ⟨st, pair, index, i, marked⟩ := s
  obtain ⟨src0, rdg0, rdg1, wds0, wds1, fits⟩ := hg
  obtain ⟨hp0, hp1, hi0, hi1, hii0, hii1, hnw⟩ := ho
  obtain ⟨hb, hd, hne⟩ := hw
  dsimp only at hp0 hp1 hi0 hi1 hii0 hii1 hb
  have lm := hm.hm.lt
  have lw := hm.hw.lt
  have fin : ∀ (did : DidV) (g : Nat) (p' x' i' : Int) (m' : Bool) (ms' : List Int) (nx : Value), nx = wnext g b → ∀ e w',
      StepsW (b :: [bw]) (.agg did.cells) b bm bw ms' ((wrCells src rdg wds per bd n cap p' x' i' m' (wnext st b)).setIfInBounds 9 nx) 77 w e w' →
      WStepped [b, bw] did b bm bw bd n cap src rdg wds per xs ⟨g, p', x', i', m'⟩ ms' w e w' := by
    rintro did g p' x' i' m' ms' nx rfl e w' ⟨he, hk, hm', hb'⟩
    refine ⟨he, hk, hm', hb', ?_, hne⟩
    obtain ⟨dv, hdv, hx⟩ := hd
    exact ⟨dv, hdv.keep hk (by simp; exact ⟨hne.symm, n3⟩), hx⟩
  match st with
  | 0 =>
    refine (WriterStep_next 24 bm b bw [bw] _ (wrCells src rdg wds per bd n cap (1 - rd ms rdg.toNat % 2) (index) (i) (marked) (wnext 0 b)) rfl ({}) 31 _ rfl (ms) now w hb n1 n2 lm lw (fun w1 h1 => ?_) (by simp; omega) (fun _ _ => by kernel_rfl)).mono (fin ({}) 1 (1 - rd ms rdg.toNat % 2) (index) (i) (marked) (ms) _ rfl)
    subst h1
    exact Wchoose_any bm bw b bd n cap ms src rdg wds per pair index i marked _ now _ (hm.alloc _) (hb.alloc _) n1 n2 rdg0 rdg1 (hms _).1 (hms _).2
  | 1 =>
    refine (WriterStep_next 31 bm b bw [bw] _ (wrCells src rdg wds per bd n cap (pair) (1 - rd ms (src + 1 + pair).toNat % 2) (i) (marked) (wnext 1 b)) rfl ({}) 39 _ rfl (ms) now w hb n1 n2 lm lw (fun w1 h1 => ?_) (by simp; omega) (fun _ _ => by kernel_rfl)).mono (fin ({}) 2 (pair) (1 - rd ms (src + 1 + pair).toNat % 2) (i) (marked) (ms) _ rfl)
    subst h1
    exact Wother_any bm bw b bd n cap ms src rdg wds per pair index i marked _ now _ (hm.alloc _) (hb.alloc _) n1 n2 src0 wds0 hp0 hp1 hi0 hi1 fits (hms _).1 (hms _).2
  | 2 =>
    refine (WriterStep_next 39 bm b bw [bw] _ (wrCells src rdg wds per bd n cap (pair) (index) (i) (marked) (wnext 2 b)) rfl ({ buffer := 1 + (2 * pair + index) }) 50 _ rfl (ms.set (bufAt src wds pair index).toNat n) now w hb n1 n2 lm lw (fun w1 h1 => ?_) (by simp; omega) (fun _ _ => by kernel_rfl)).mono (fin ({ buffer := 1 + (2 * pair + index) }) 3 (pair) (index) (i) (marked) (ms.set (bufAt src wds pair index).toNat n) _ rfl)
    subst h1
    exact Wlength_any bm bw b bd n cap ms src rdg wds per pair index i marked _ now _ (hm.alloc _) (hb.alloc _) n1 n2 src0 wds0 hp0 hp1 hi0 hi1 fits (by omega)
  | 3 =>
    refine (WriterStep_next 50 bm b bw [bw] _ (wrCells src rdg wds per bd n cap (pair) (index) (i) (marked) (wnext 3 b)) rfl ({ stamped := true }) 56 _ rfl (ms.set (bufAt src wds pair index + 1).toNat now) now w hb n1 n2 lm lw (fun w1 h1 => ?_) (by simp; omega) (fun _ _ => by kernel_rfl)).mono (fin ({ stamped := true }) 4 (pair) (index) (i) (marked) (ms.set (bufAt src wds pair index + 1).toNat now) _ rfl)
    subst h1
    exact Wstamp_any bm bw b bd n cap ms src rdg wds per pair index i marked _ now _ (hm.alloc _) (hb.alloc _) n1 n2 src0 wds0 hp0 hp1 hi0 hi1 fits hn0 hn1
  | 4 =>
    obtain ⟨dv, hdv, hdx⟩ := hd
    have hi2 : i < n := hii1 (by omega)
    have hx : dv[i.toNat]? = some (.int .u32 (rd xs i.toNat)) := hdx _ (by omega)
    by_cases hmore : i + 1 < n
    · have e : (wstep src rdg wds n xs ⟨4, pair, index, i, marked⟩ ms now) = ({}, ⟨4, pair, index, i + 1, marked⟩, ms.set (bufAt src wds pair index + 2 + i).toNat (rd xs i.toNat)) := by simp [wstep, hmore]
      rw [e]
      refine (WriterStep_next 56 bm b bw [bw] _ (wrCells src rdg wds per bd n cap (pair) (index) (i + 1) (marked) (wnext 4 b)) rfl ({}) 56 _ rfl (ms.set (bufAt src wds pair index + 2 + i).toNat (rd xs i.toNat)) now w hb n1 n2 lm lw (fun w1 h1 => ?_) (by simp; omega) (fun _ _ => by kernel_rfl)).mono (fin ({}) 4 (pair) (index) (i + 1) (marked) (ms.set (bufAt src wds pair index + 2 + i).toNat (rd xs i.toNat)) _ rfl)
      subst h1
      exact Wword_more bm bw b bd n cap dv _ ms src rdg wds per pair index i marked _ now _ (hm.alloc _) (hb.alloc _) n1 n2 src0 wds0 hp0 hp1 hi0 hi1 fits (hdv.alloc _) n3 hne.symm hii0 hi2 hx hnw hmore
    · have e : (wstep src rdg wds n xs ⟨4, pair, index, i, marked⟩ ms now) = ({}, ⟨5, pair, index, i + 1, marked⟩, ms.set (bufAt src wds pair index + 2 + i).toNat (rd xs i.toNat)) := by simp [wstep, hmore]
      rw [e]
      refine (WriterStep_next 56 bm b bw [bw] _ (wrCells src rdg wds per bd n cap (pair) (index) (i + 1) (marked) (wnext 4 b)) rfl ({}) 59 _ rfl (ms.set (bufAt src wds pair index + 2 + i).toNat (rd xs i.toNat)) now w hb n1 n2 lm lw (fun w1 h1 => ?_) (by simp; omega) (fun _ _ => by kernel_rfl)).mono (fin ({}) 5 (pair) (index) (i + 1) (marked) (ms.set (bufAt src wds pair index + 2 + i).toNat (rd xs i.toNat)) _ rfl)
      subst h1
      exact Wword_last bm bw b bd n cap dv _ ms src rdg wds per pair index i marked _ now _ (hm.alloc _) (hb.alloc _) n1 n2 src0 wds0 hp0 hp1 hi0 hi1 fits (hdv.alloc _) n3 hne.symm hii0 hi2 hx hnw hmore
  | 5 =>
    refine (WriterStep_next 59 bm b bw [bw] _ (wrCells src rdg wds per bd n cap (pair) (index) (i) (rd ms src.toNat % 2 == pair) (wnext 5 b)) rfl ({ mark := (rd ms src.toNat % 2 == pair) }) 63 _ rfl (ms.set (src + 1 + pair).toNat index) now w hb n1 n2 lm lw (fun w1 h1 => ?_) (by simp; omega) (fun _ _ => by kernel_rfl)).mono (fin ({ mark := (rd ms src.toNat % 2 == pair) }) 6 (pair) (index) (i) (rd ms src.toNat % 2 == pair) (ms.set (src + 1 + pair).toNat index) _ rfl)
    subst h1
    exact Wshow_any bm bw b bd n cap ms src rdg wds per pair index i marked _ now _ (hm.alloc _) (hb.alloc _) n1 n2 src0 wds0 hp0 hp1 hi0 hi1 fits (hms _).1 (hms _).2
  | 6 =>
    refine (WriterStep_end 63 bm b bw [bw] _ (wrCells src rdg wds per bd n cap (pair) (index) (i) (marked) (wnext 6 b)) rfl ({ done := true, mark := !marked }) _ rfl (ms.set src.toNat pair) now w hb n1 n2 lm lw (fun w1 h1 => ?_) (by simp; omega) (fun _ _ => by kernel_rfl)).mono (fin ({ done := true, mark := !marked }) 7 (pair) (index) (i) (marked) (ms.set src.toNat pair) _ rfl)
    subst h1
    exact Wend_any bm bw b bd n cap ms src rdg wds per pair index i marked _ now _ (hm.alloc _) (hb.alloc _) n1 n2 src0 wds0 hp0 hp1 hi0 hi1 fits
  | k + 7 =>
    have hnx : wnext (k + 7) b = .nilFunc := rfl
    refine (WriterStep_nil bm b _ rfl now w hb).mono ?_
    rintro e w' ⟨he, hk⟩
    refine ⟨he, hk.mono (by simp), hm.keep hk (by simp) (by simp), hb.keep hk (by simp), ?_, hne⟩
    obtain ⟨dv, hdv, hx⟩ := hd
    exact ⟨dv, hdv.keep hk (by simp), hx⟩

end Go.Proofs.Ytpkjffiajidfcaa

/- One step of a read, whatever step it is: as a function on a list of words. -/
namespace Go.Proofs.Ytpkjffiajidfcaa
open Go.RowKit

/-- Where a read stands: 0 latest, 1 tell, 2 newer, 3 length, 4 when, 5 word, 6 done. -/
structure RSt where
  stage : Nat
  pair : Int
  index : Int
  left : Int
  stamp : Int
  xs : List Int

def rnext (stage b : Nat) : Value :=
  match stage with
  | 0 => nextF 25 b
  | 1 => nextF 32 b
  | 2 => nextF 41 b
  | 3 => nextF 52 b
  | 4 => nextF 57 b
  | 5 => nextF 60 b
  | _ => .nilFunc

def rstep (src rdg wds : Int) (s : RSt) (ms : List Int) : RSt × List Int :=
  match s.stage with
  | 0 => ({ s with stage := 1, pair := rd ms src.toNat % 2 }, ms)
  | 1 => ({ s with stage := 2 }, ms.set rdg.toNat s.pair)
  | 2 => ({ s with stage := 3, index := rd ms (src + 1 + s.pair).toNat % 2 }, ms)
  | 3 => (if rd ms (bufAt src wds s.pair s.index).toNat = 0 then { s with stage := 6 }
      else { s with stage := 4, left := if rd ms (bufAt src wds s.pair s.index).toNat ≤ wds then rd ms (bufAt src wds s.pair s.index).toNat else wds }, ms)
  | 4 => ({ s with stage := 5, stamp := rd ms (bufAt src wds s.pair s.index + 1).toNat }, ms)
  | 5 => ({ s with stage := if (s.xs.length : Int) + 1 < s.left then 5 else 6, xs := s.xs ++ [rd ms (bufAt src wds s.pair s.index + 2 + s.xs.length).toNat] }, ms)
  | _ => (s, ms)

/-- What a step of a read tells; the words that it found lie at da. -/
def rdid (src wds per : Int) (s : RSt) (ms : List Int) (now : Int) (da : Option Addr) (dc : Nat) : DidV :=
  match s.stage with
  | 3 => if rd ms (bufAt src wds s.pair s.index).toNat = 0 then { done := true, code := 1, buffer := 1 + (2 * s.pair + s.index) } else { buffer := 1 + (2 * s.pair + s.index) }
  | 5 => if (s.xs.length : Int) + 1 < s.left then {} else { done := true, da := da, dn := s.xs.length + 1, dc := dc, valid := decide (now - s.stamp ≤ per) }
  | _ => {}

structure ROk (wds : Int) (s : RSt) : Prop where
  pair0 : 0 ≤ s.pair
  pair1 : s.pair ≤ 1
  index0 : 0 ≤ s.index
  index1 : s.index ≤ 1
  left0 : s.stage = 5 → (s.xs.length : Int) < s.left
  left1 : s.stage = 5 → s.left ≤ wds
  stamp0 : 0 ≤ s.stamp
  stamp1 : s.stamp ≤ 4294967295

structure RdAt (w : World) (b : Nat) (da : Option Addr) (dc : Nat) (src rdg wds per : Int) (s : RSt) : Prop where
  obj : Blk w b (rdCells src rdg wds per s.pair s.index s.left s.stamp (.slice da s.xs.length dc) (rnext s.stage b)) 80
  data : w.ownsRow 0 41 1 (.slice da s.xs.length dc) s.xs.length (s.xs.map (Value.int .u32))

theorem ownsRow_keeps {l : List Nat} {w w' : World} {base : Nat} {e : TypeId} {size : Nat} {v : Value} {n : Nat} {xs : List Value} (h : w.ownsRow base e size v n xs) (hk : Keeps l w w') (hl : ∀ x, v.ownBlock = some x → x ∉ l) : w'.ownsRow base e size v n xs := by
  refine ⟨h.1, ?_⟩
  rcases h.2 with hx | ⟨g, cap, cur, hv, hb, hg, hr⟩
  · exact .inl hx
  · exact .inr ⟨g, cap, cur, hv, hb, (hk.block g (lt_of_block hg) (hl g (by rw [hv]; rfl))).trans hg, hr⟩

theorem RdAt.keep {l : List Nat} {w w' : World} {b dc : Nat} {da : Option Addr} {src rdg wds per : Int} {s : RSt} (h : RdAt w b da dc src rdg wds per s) (k : Keeps l w w') (h1 : b ∉ l) (h2 : ∀ x, (Value.slice da s.xs.length dc).ownBlock = some x → x ∉ l) : RdAt w' b da dc src rdg wds per s :=
  ⟨h.obj.keep k h1, ownsRow_keeps h.data k h2⟩

/-- What a step of a read leaves. -/
def RStepped (own : Option Nat) (did : Option Addr → Nat → DidV) (b bm bw : Nat) (src rdg wds per : Int) (s : RSt) (ms : List Int) (w : World) (e : Ending) (w' : World) : Prop :=
  ∃ da dc, e = .returned (.agg (did da dc).cells) ∧ Keeps (b :: bw :: own.toList) w w' ∧ MemAt w' bm bw ms ∧ RdAt w' b da dc src rdg wds per s ∧
    ((Value.slice da s.xs.length dc).ownBlock = own ∨ ∃ g, (Value.slice da s.xs.length dc).ownBlock = some g ∧ w.heap.size ≤ g)


theorem RStep_any (b bm bw dc : Nat) (da : Option Addr) (src rdg wds per : Int) (s : RSt) (ms : List Int) (now : Int) (w : World)
    (hm : MemAt w bm bw ms) (hr : RdAt w b da dc src rdg wds per s) (hms : MsOk ms) (hg : Geo src rdg wds ms) (ho : ROk wds s) (hn0 : 0 ≤ now) (hn1 : now ≤ 4294967295) (n1 : b ≠ bm) (n2 : b ≠ bw)
    (o1 : some b ≠ (Value.slice da s.xs.length dc).ownBlock) (o2 : some bm ≠ (Value.slice da s.xs.length dc).ownBlock) (o3 : some bw ≠ (Value.slice da s.xs.length dc).ownBlock) :
    Calls Try.prog 16 #[.pointer (some ⟨b, 0, none⟩), .pointer (some ⟨bm, 0, none⟩), .int .i64 now] w
      (RStepped (Value.slice da s.xs.length dc).ownBlock (rdid src wds per s ms now) b bm bw src rdg wds per (rstep src rdg wds s ms).1 (rstep src rdg wds s ms).2 w) := by
  obtain ⟨st, pair, index, left, stamp, xs⟩ := s
  obtain ⟨src0, rdg0, rdg1, wds0, wds1, fits⟩ := hg
  obtain ⟨hp0, hp1, hi0, hi1, hl0, hl1, hst0, hst1⟩ := ho
  obtain ⟨hb, hd⟩ := hr
  dsimp only at hp0 hp1 hi0 hi1 hl0 hl1 hst0 hst1 hb hd o1 o2 o3
  have lm := hm.hm.lt
  have lw := hm.hw.lt
  have fin : ∀ (did : DidV) (g : Nat) (p' x' l' s' : Int) (ms' : List Int) (nx : Value), nx = rnext g b → ∀ dd : Option Addr → Nat → DidV, dd da dc = did → ∀ e w',
      StepsW (b :: [bw]) (.agg did.cells) b bm bw ms' ((rdCells src rdg wds per p' x' l' s' (.slice da xs.length dc) (rnext st b)).setIfInBounds 9 nx) 80 w e w' →
      RStepped (Value.slice da xs.length dc).ownBlock dd b bm bw src rdg wds per ⟨g, p', x', l', s', xs⟩ ms' w e w' := by
    rintro did g p' x' l' s' ms' nx rfl dd hdd e w' ⟨he, hk, hm', hb'⟩
    refine ⟨da, dc, by rw [hdd]; exact he, hk.mono (by intro x hx _; simp at hx ⊢; rcases hx with h | h <;> simp [h]), hm', ⟨hb', ownsRow_keeps hd hk ?_⟩, .inl rfl⟩
    intro x hx hxl
    simp at hxl
    rcases hxl with rfl | rfl
    · exact o1 hx.symm
    · exact o3 hx.symm
  match st with
  | 0 =>
    refine (ReaderStep_next 25 bm b bw [bw] _ (rdCells src rdg wds per (rd ms src.toNat % 2) (index) (left) (stamp) (.slice da xs.length dc) (rnext 0 b)) rfl ({}) 32 _ rfl (ms) now w hb n1 n2 lm lw (fun w1 h1 => ?_) (by simp; omega) (fun _ _ => by kernel_rfl)).mono (fin ({}) 1 (rd ms src.toNat % 2) (index) (left) (stamp) (ms) _ rfl _ rfl)
    subst h1
    exact Rlatest_any bm bw b ms src rdg wds per pair index left stamp _ _ now _ (hm.alloc _) (hb.alloc _) n1 n2 src0 (by omega) (hms _).1 (hms _).2
  | 1 =>
    refine (ReaderStep_next 32 bm b bw [bw] _ (rdCells src rdg wds per (pair) (index) (left) (stamp) (.slice da xs.length dc) (rnext 1 b)) rfl ({}) 41 _ rfl (ms.set rdg.toNat pair) now w hb n1 n2 lm lw (fun w1 h1 => ?_) (by simp; omega) (fun _ _ => by kernel_rfl)).mono (fin ({}) 2 (pair) (index) (left) (stamp) (ms.set rdg.toNat pair) _ rfl _ rfl)
    subst h1
    exact Rtell_any bm bw b ms src rdg wds per pair index left stamp _ _ now _ (hm.alloc _) (hb.alloc _) n1 n2 rdg0 rdg1
  | 2 =>
    refine (ReaderStep_next 41 bm b bw [bw] _ (rdCells src rdg wds per (pair) (rd ms (src + 1 + pair).toNat % 2) (left) (stamp) (.slice da xs.length dc) (rnext 2 b)) rfl ({}) 52 _ rfl (ms) now w hb n1 n2 lm lw (fun w1 h1 => ?_) (by simp; omega) (fun _ _ => by kernel_rfl)).mono (fin ({}) 3 (pair) (rd ms (src + 1 + pair).toNat % 2) (left) (stamp) (ms) _ rfl _ rfl)
    subst h1
    exact Rnewer_any bm bw b ms src rdg wds per pair index left stamp _ _ now _ (hm.alloc _) (hb.alloc _) n1 n2 src0 wds0 hp0 hp1 fits (hms _).1 (hms _).2
  | 3 =>
    by_cases hz : rd ms (bufAt src wds pair index).toNat = 0
    · have e : rstep src rdg wds ⟨3, pair, index, left, stamp, xs⟩ ms = (⟨6, pair, index, left, stamp, xs⟩, ms) := by simp [rstep, hz]
      rw [e]
      refine (ReaderStep_end 52 bm b bw [bw] _ (rdCells src rdg wds per (pair) (index) (left) (stamp) (.slice da xs.length dc) (rnext 3 b)) rfl ({ done := true, code := 1, buffer := 1 + (2 * pair + index) }) _ rfl (ms) now w hb n1 n2 lm lw (fun w1 h1 => ?_) (by simp; omega) (fun _ _ => by kernel_rfl)).mono (fin ({ done := true, code := 1, buffer := 1 + (2 * pair + index) }) 6 (pair) (index) (left) (stamp) (ms) _ rfl _ (by simp [rdid, hz]))
      subst h1
      exact Rlength_none bm bw b ms src rdg wds per pair index left stamp _ _ now _ (hm.alloc _) (hb.alloc _) n1 n2 src0 wds0 hp0 hp1 hi0 hi1 fits hz
    · have hpos : 0 < rd ms (bufAt src wds pair index).toNat := by have := (hms (bufAt src wds pair index).toNat).1; omega
      by_cases hle : rd ms (bufAt src wds pair index).toNat ≤ wds
      · have e : rstep src rdg wds ⟨3, pair, index, left, stamp, xs⟩ ms = (⟨4, pair, index, rd ms (bufAt src wds pair index).toNat, stamp, xs⟩, ms) := by simp [rstep, hz, hle]
        rw [e]
        refine (ReaderStep_next 52 bm b bw [bw] _ (rdCells src rdg wds per (pair) (index) (rd ms (bufAt src wds pair index).toNat) (stamp) (.slice da xs.length dc) (rnext 3 b)) rfl ({ buffer := 1 + (2 * pair + index) }) 57 _ rfl (ms) now w hb n1 n2 lm lw (fun w1 h1 => ?_) (by simp; omega) (fun _ _ => by kernel_rfl)).mono (fin ({ buffer := 1 + (2 * pair + index) }) 4 (pair) (index) (rd ms (bufAt src wds pair index).toNat) (stamp) (ms) _ rfl _ (by simp [rdid, hz]))
        subst h1
        exact Rlength_some bm bw b ms src rdg wds per pair index left stamp _ _ now _ (hm.alloc _) (hb.alloc _) n1 n2 src0 wds0 hp0 hp1 hi0 hi1 fits (by omega) _ hle rfl hpos (hms _).2
      · have e : rstep src rdg wds ⟨3, pair, index, left, stamp, xs⟩ ms = (⟨4, pair, index, wds, stamp, xs⟩, ms) := by simp [rstep, hz, hle]
        rw [e]
        refine (ReaderStep_next 52 bm b bw [bw] _ (rdCells src rdg wds per (pair) (index) (wds) (stamp) (.slice da xs.length dc) (rnext 3 b)) rfl ({ buffer := 1 + (2 * pair + index) }) 57 _ rfl (ms) now w hb n1 n2 lm lw (fun w1 h1 => ?_) (by simp; omega) (fun _ _ => by kernel_rfl)).mono (fin ({ buffer := 1 + (2 * pair + index) }) 4 (pair) (index) (wds) (stamp) (ms) _ rfl _ (by simp [rdid, hz]))
        subst h1
        exact Rlength_much bm bw b ms src rdg wds per pair index left stamp _ _ now _ (hm.alloc _) (hb.alloc _) n1 n2 src0 wds0 hp0 hp1 hi0 hi1 fits (by omega) _ (Int.not_le.mp hle) rfl hpos (hms _).2
  | 4 =>
    refine (ReaderStep_next 57 bm b bw [bw] _ (rdCells src rdg wds per (pair) (index) (left) (rd ms (bufAt src wds pair index + 1).toNat) (.slice da xs.length dc) (rnext 4 b)) rfl ({}) 60 _ rfl (ms) now w hb n1 n2 lm lw (fun w1 h1 => ?_) (by simp; omega) (fun _ _ => by kernel_rfl)).mono (fin ({}) 5 (pair) (index) (left) (rd ms (bufAt src wds pair index + 1).toNat) (ms) _ rfl _ rfl)
    subst h1
    exact Rwhen_any bm bw b ms src rdg wds per pair index left stamp _ _ now _ (hm.alloc _) (hb.alloc _) n1 n2 src0 wds0 hp0 hp1 hi0 hi1 fits
  | 5 =>
    have hlt : (xs.length : Int) < left := hl0 rfl
    have hlw : left ≤ wds := hl1 rfl
    have hsz : w.heap.size ∉ (Value.slice da xs.length dc).ownBlock.toList := by
      intro h
      simp only [Option.mem_toList] at h
      exact ownsRow_old hd (Nat.le_refl _) h.symm
    have hmap : (xs ++ [rd ms (bufAt src wds pair index + 2 + xs.length).toNat]).map (Value.int .u32) = xs.map (Value.int .u32) ++ [.int .u32 (rd ms (bufAt src wds pair index + 2 + xs.length).toNat)] := by simp
    have hlen : (xs ++ [rd ms (bufAt src wds pair index + 2 + xs.length).toNat]).length = xs.length + 1 := by simp
    have fin5 : ∀ (g5 : Nat) (did : Nat → Nat → DidV) (dd : Option Addr → Nat → DidV), (∀ g cap, dd (some ⟨g, 0, none⟩) cap = did g cap) → ∀ e w' g cap w1,
        (w1.ownsRow 0 41 1 (.slice (some ⟨g, 0, none⟩) (xs.length + 1) cap) (xs.length + 1) (xs.map (Value.int .u32) ++ [.int .u32 (rd ms (bufAt src wds pair index + 2 + xs.length).toNat)]) ∧ ((Value.slice da xs.length dc).ownBlock = some g ∨ w.heap.size + 1 ≤ g)) →
        Keeps [b, w.heap.size] w1 w' → e = .returned (.agg (did g cap).cells) → Keeps (b :: (Value.slice da xs.length dc).ownBlock.toList) w w' → MemAt w' bm bw ms →
        Blk w' b (rdCells src rdg wds per pair index left stamp (.slice (some ⟨g, 0, none⟩) (xs.length + 1) cap) (rnext g5 b)) 80 →
        RStepped (Value.slice da xs.length dc).ownBlock dd b bm bw src rdg wds per ⟨g5, pair, index, left, stamp, xs ++ [rd ms (bufAt src wds pair index + 2 + xs.length).toNat]⟩ ms w e w' := by
      intro g5 did dd hdd e w' g cap w1 hP hk1 he hk hm' hb'
      refine ⟨some ⟨g, 0, none⟩, cap, by rw [hdd]; exact he, hk.mono (by intro x hx _; simp at hx ⊢; rcases hx with h | h <;> simp [h]), hm', ⟨?_, ?_⟩, ?_⟩
      · show Blk w' b (rdCells src rdg wds per pair index left stamp (.slice (some ⟨g, 0, none⟩) (xs ++ [rd ms (bufAt src wds pair index + 2 + xs.length).toNat]).length cap) (rnext g5 b)) _
        rw [hlen]; exact hb'
      · show w'.ownsRow 0 _ 1 (.slice (some ⟨g, 0, none⟩) (xs ++ [rd ms (bufAt src wds pair index + 2 + xs.length).toNat]).length cap) (xs ++ [rd ms (bufAt src wds pair index + 2 + xs.length).toNat]).length ((xs ++ [rd ms (bufAt src wds pair index + 2 + xs.length).toNat]).map (Value.int .u32))
        rw [hlen, hmap]
        refine ownsRow_keeps hP.1 hk1 ?_
        intro x hx
        simp [Value.ownBlock] at hx
        subst hx
        have hbl := hb.lt
        rcases hP.2 with h | h
        · have h1 : g ≠ b := fun e => o1 (by rw [h, e])
          have h2 := ownsRow_old hd (Nat.le_refl _)
          have h3 : g ≠ w.heap.size := fun e => h2 (by rw [h, e])
          simp; exact ⟨h1, h3⟩
        · simp; omega
      · rcases hP.2 with h | h
        · exact .inl (by rw [h]; rfl)
        · exact .inr ⟨g, rfl, by omega⟩
    by_cases hmore : (xs.length : Int) + 1 < left
    · have e : rstep src rdg wds ⟨5, pair, index, left, stamp, xs⟩ ms = (⟨5, pair, index, left, stamp, xs ++ [rd ms (bufAt src wds pair index + 2 + xs.length).toNat]⟩, ms) := by simp [rstep, hmore]
      rw [e]
      refine (ReaderStep_nextE 60 bm b bw (Value.slice da xs.length dc).ownBlock.toList _ (fun g cap => rdCells src rdg wds per pair index left stamp (.slice (some ⟨g, 0, none⟩) (xs.length + 1) cap) (rnext 5 b)) rfl (fun _ _ => {}) 60 _ (fun _ _ => rfl) (fun g cap w1 => w1.ownsRow 0 41 1 (.slice (some ⟨g, 0, none⟩) (xs.length + 1) cap) (xs.length + 1) (xs.map (Value.int .u32) ++ [.int .u32 (rd ms (bufAt src wds pair index + 2 + xs.length).toNat)]) ∧ ((Value.slice da xs.length dc).ownBlock = some g ∨ w.heap.size + 1 ≤ g)) ms now w hb n1 n2 lm lw (fun w1 h1 => ?_) hsz (fun _ _ => by kernel_rfl)).mono (fun e w' ⟨g, cap, w1, hP, hk1, he, hk, hm', hb'⟩ => fin5 5 (fun _ _ => {}) _ (by intro g cap; simp [rdid, hmore]) e w' g cap w1 hP hk1 he hk hm' hb')
      subst h1
      refine (Rword_more bm bw b xs.length dc da (xs.map (Value.int .u32)) ms src rdg wds per pair index left stamp _ now _ (hm.alloc _) (hb.alloc _) n1 n2 (hd.alloc _) o1 o2 o3 src0 wds0 hp0 hp1 hi0 hi1 fits (by omega) (by omega) hmore).mono ?_
      rintro e w' ⟨g, cap, he, hk, hm', hb', ho, hat⟩
      exact ⟨g, cap, he, hk, hm', hb', ho, by simpa using hat⟩
    · have e : rstep src rdg wds ⟨5, pair, index, left, stamp, xs⟩ ms = (⟨6, pair, index, left, stamp, xs ++ [rd ms (bufAt src wds pair index + 2 + xs.length).toNat]⟩, ms) := by simp [rstep, hmore]
      rw [e]
      refine (ReaderStep_endE 60 bm b bw (Value.slice da xs.length dc).ownBlock.toList _ (fun g cap => rdCells src rdg wds per pair index left stamp (.slice (some ⟨g, 0, none⟩) (xs.length + 1) cap) (rnext 5 b)) rfl (fun g cap => { done := true, da := some ⟨g, 0, none⟩, dn := xs.length + 1, dc := cap, valid := decide (now - stamp ≤ per) }) _ (fun _ _ => rfl) (fun g cap w1 => w1.ownsRow 0 41 1 (.slice (some ⟨g, 0, none⟩) (xs.length + 1) cap) (xs.length + 1) (xs.map (Value.int .u32) ++ [.int .u32 (rd ms (bufAt src wds pair index + 2 + xs.length).toNat)]) ∧ ((Value.slice da xs.length dc).ownBlock = some g ∨ w.heap.size + 1 ≤ g)) ms now w hb n1 n2 lm lw (fun w1 h1 => ?_) hsz (fun _ _ => by kernel_rfl)).mono (fun e w' ⟨g, cap, w1, hP, hk1, he, hk, hm', hb'⟩ => fin5 6 (fun g cap => { done := true, da := some ⟨g, 0, none⟩, dn := xs.length + 1, dc := cap, valid := decide (now - stamp ≤ per) }) _ (by intro g cap; simp [rdid, hmore]) e w' g cap w1 hP hk1 he hk hm' hb')
      subst h1
      refine (Rword_last bm bw b xs.length dc da (xs.map (Value.int .u32)) ms src rdg wds per pair index left stamp _ now _ (hm.alloc _) (hb.alloc _) n1 n2 (hd.alloc _) o1 o2 o3 src0 wds0 hp0 hp1 hi0 hi1 fits (by omega) (by omega) hmore hn0 hn1 hst0 hst1).mono ?_
      rintro e w' ⟨g, cap, he, hk, hm', hb', ho, hat⟩
      exact ⟨g, cap, he, hk, hm', hb', ho, by simpa using hat⟩
  | k + 6 =>
    refine (ReaderStep_nil bm b _ rfl now w hb).mono ?_
    rintro e w' ⟨he, hk⟩
    exact ⟨da, dc, he, hk.mono (by simp), hm.keep hk (by simp) (by simp), ⟨hb.keep hk (by simp), ownsRow_keeps hd hk (by simp)⟩, .inl rfl⟩

end Go.Proofs.Ytpkjffiajidfcaa
