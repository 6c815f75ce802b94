/- sized and put of package layout. -/
import Derived.Test.YtpkjffiajidfcaaG1
import Derived.Test.YtpkjffiajidfcaaG2
set_option linter.all false
set_option linter.unusedVariables false
set_option linter.unusedSimpArgs false

namespace Go.Proofs.Ytpkjffiajidfcaa
open Go.RowKit

def spSized (x0 x3 x4 : Int) : Int := if x0 = 1 then 3 + 4 * (2 + x3) else 1 + x4 * (1 + x3)

theorem sized_any (x0 x1 x2 x3 x4 x5 x6 : Int) (w : World) (h3 : 0 ≤ x3) (h3' : x3 ≤ 16) (h4 : 0 ≤ x4) (h4' : x4 ≤ 8) :
    Calls Try.prog 47 #[.agg #[.int .i64 x0, .int .i64 x1, .int .i64 x2, .int .i64 x3, .int .i64 x4, .int .i64 x5, .int .u32 x6]] w (Says (.int .i64 (spSized x0 x3 x4)) w) := by
  have k0 : 0 ≤ x4 * (1 + x3) := Int.mul_nonneg h4 (by omega)
  have k1 : x4 * (1 + x3) ≤ 8 * 17 := Int.mul_le_mul h4' (by omega) (by omega) (by omega)
  by_cases hx : x0 = 1
  · have hd : (x0 == 1) = true := by simpa using hx
    have Hx := Lib.hid hx
    clear hx
    go_enter Try.func47, Try.ntmps47
    go_wp2
    go_ret
    exact ⟨ret_i64 (by unfold spSized; rw [if_pos Hx.out]), by (repeat' with_reducible (first | exact Keeps.refl _ _ | assumption | apply Keeps.drew | apply Keeps.drewN | apply Keeps.alloc | refine Keeps.trans ?_ hk1 | refine Keeps.trans ?_ hk2 | refine Keeps.trans ?_ hk3))⟩
  · have hd : (x0 == 1) = false := by simpa using hx
    have Hx := Lib.hid hx
    clear hx
    go_enter Try.func47, Try.ntmps47
    go_wp2
    go_ret
    exact ⟨ret_i64 (by unfold spSized; rw [if_neg Hx.out]), by (repeat' with_reducible (first | exact Keeps.refl _ _ | assumption | apply Keeps.drew | apply Keeps.drewN | apply Keeps.alloc | refine Keeps.trans ?_ hk1 | refine Keeps.trans ?_ hk2 | refine Keeps.trans ?_ hk3))⟩

theorem info_span : (Try.prog.info? 85).map (fun i => (i.zero, i.size, i.bytes)) = some (some (.agg #[.int .i64 0, .int .i64 0]), 2, 16) := by kernel_rfl

theorem news2 {w : World} {b : Nat} {u v : Value} {t : TypeId} (h : Blk w b #[u, v] t) : ∀ (j : Nat) (x : Value), [u, v][j]? = some x → w.cell? ((⟨b, 0, none⟩ : Addr).add j) = some x := by
  intro j x hj
  match j with
  | 0 => simp at hj; subst hj; exact h.cell 0
  | 1 => simp at hj; subst hj; exact h.cell 1
  | j + 2 => simp at hj

/-- What put leaves. -/
def Puts (b : Nat) (parts : Int) (own : Option Nat) (n : Nat) (xs : List Value) (endv : Int) (w : World) (e : Ending) (w' : World) : Prop :=
  ∃ g cap, e = .returned (.tuple #[]) ∧ Keeps (b :: own.toList) w w' ∧ Blk w' b #[.int .i64 parts, .slice (some ⟨g, 0, none⟩) n cap, .int .i64 endv] 91 ∧
    w'.ownsRow 0 85 2 (.slice (some ⟨g, 0, none⟩) n cap) n xs ∧ (own = some g ∨ w.heap.size ≤ g) ∧ g ≠ b


set_option maxRecDepth 100000 in
set_option maxHeartbeats 1000000 in
theorem put_any (b ln lc : Nat) (la : Option Addr) (parts en size : Int) (xs : List Value) (w : World) (hb : Blk w b #[.int .i64 parts, .slice la ln lc, .int .i64 en] 91) (hown : w.ownsRow 0 85 2 (.slice la ln lc) ln xs)
    (o1 : some b ≠ (Value.slice la ln lc).ownBlock) (hn : ln ≤ 100) (he0 : 0 ≤ en) (he1 : en ≤ 65536) (hs0 : 0 ≤ size) (hs1 : size ≤ 65536) :
    Calls Try.prog 46 #[.pointer (some ⟨b, 0, none⟩), .int .i64 size] w (Puts b parts (Value.slice la ln lc).ownBlock (ln + 1) (xs ++ [.int .i64 en, .int .i64 size]) (en + size) w) := by
  obtain ⟨i0, hi, hz0, hz1, hz2⟩ := info_parts info_span
  have hbc : ∀ j, w.cell? ⟨b, j, none⟩ = (#[.int .i64 parts, .slice la ln lc, .int .i64 en] : Array Value)[j]? := hb.cell
  have hlt := hb.lt
  go_enter Try.func46, Try.ntmps46
  go_wp2_with fail
  refine AnyT.start 15 (fun w' => ∀ j, w'.cell? ⟨b, j, none⟩ = (#[.int .i64 parts, .slice la ln lc, .int .i64 en] : Array Value)[j]?) (by kernel_rfl) ?_ (fun hHeld => ?_)
  · (try dsimp only); (refine Blk.cell (t := 91) ?_; (repeat' with_reducible (first | exact hb | apply Blk.drew | apply Blk.alloc | exact hb1)); done)
  refine AnyT.take (i := 0) (oi := { dst := some 4, op := Op.move (Operand.tmp 0), type := 105, pos := "layout.go:29", after := #[], guard := none }) (v := ?_) rfl (by kernel_rfl) (fun _ _ _ h => h) hHeld (Or.inl ⟨by rfl, ?_⟩) ?_
  rotate_left
  · intro w hSw; (try dsimp only at hSw); go_simp
    try with_reducible rfl
  try simp only [Act.put, List.setIfInBounds_toArray, List.set_cons_zero, List.set_cons_succ]
  refine AnyT.take (i := 1) (oi := { dst := some 5, op := Op.move (Operand.tmp 0), type := 105, pos := "layout.go:29", after := #[], guard := none }) (v := ?_) rfl (by kernel_rfl) (fun _ _ _ h => h) hHeld (Or.inl ⟨by rfl, ?_⟩) ?_
  rotate_left
  · intro w hSw; (try dsimp only at hSw); go_simp
    try with_reducible rfl
  try simp only [Act.put, List.setIfInBounds_toArray, List.set_cons_zero, List.set_cons_succ]
  refine AnyT.take (i := 2) (oi := { dst := some 6, op := Op.nilCheck (Operand.tmp 5), type := 0, pos := "layout.go:29", after := #[{ on := 1, ground := Ground.data }], guard := none }) (v := ?_) rfl (by kernel_rfl) (fun _ _ _ h => h) hHeld (Or.inl ⟨by rfl, ?_⟩) ?_
  rotate_left
  · intro w hSw; (try dsimp only at hSw); go_simp
    try with_reducible rfl
  try simp only [Act.put, List.setIfInBounds_toArray, List.set_cons_zero, List.set_cons_succ]
  refine AnyT.take (i := 3) (oi := { dst := some 7, op := Op.fieldAddr 91 (Operand.tmp 6) 1, type := 0, pos := "layout.go:29", after := #[{ on := 2, ground := Ground.data }], guard := none }) (v := ?_) rfl (by kernel_rfl) (fun _ _ _ h => h) hHeld (Or.inl ⟨by rfl, ?_⟩) ?_
  rotate_left
  · intro w hSw; (try dsimp only at hSw); go_simp
    try with_reducible rfl
  try simp only [Act.put, List.setIfInBounds_toArray, List.set_cons_zero, List.set_cons_succ]
  refine AnyT.take (i := 4) (oi := { dst := some 8, op := Op.load 89 (Operand.tmp 7), type := 89, pos := "layout.go:29", after := #[{ on := 3, ground := Ground.data }], guard := none }) (v := ?_) rfl (by kernel_rfl) (fun _ _ _ h => h) hHeld (Or.inl ⟨by rfl, ?_⟩) ?_
  rotate_left
  · intro w hSw; (try dsimp only at hSw); go_simp
    try with_reducible rfl
  try simp only [Act.put, List.setIfInBounds_toArray, List.set_cons_zero, List.set_cons_succ]
  refine AnyT.take (i := 5) (oi := { dst := some 9, op := Op.move (Operand.tmp 0), type := 105, pos := "layout.go:29", after := #[], guard := none }) (v := ?_) rfl (by kernel_rfl) (fun _ _ _ h => h) hHeld (Or.inl ⟨by rfl, ?_⟩) ?_
  rotate_left
  · intro w hSw; (try dsimp only at hSw); go_simp
    try with_reducible rfl
  try simp only [Act.put, List.setIfInBounds_toArray, List.set_cons_zero, List.set_cons_succ]
  refine AnyT.take (i := 6) (oi := { dst := some 10, op := Op.nilCheck (Operand.tmp 9), type := 0, pos := "layout.go:29", after := #[{ on := 5, ground := Ground.data }], guard := none }) (v := ?_) rfl (by kernel_rfl) (fun _ _ _ h => h) hHeld (Or.inl ⟨by rfl, ?_⟩) ?_
  rotate_left
  · intro w hSw; (try dsimp only at hSw); go_simp
    try with_reducible rfl
  try simp only [Act.put, List.setIfInBounds_toArray, List.set_cons_zero, List.set_cons_succ]
  refine AnyT.take (i := 7) (oi := { dst := some 11, op := Op.fieldAddr 91 (Operand.tmp 10) 2, type := 0, pos := "layout.go:29", after := #[{ on := 6, ground := Ground.data }], guard := none }) (v := ?_) rfl (by kernel_rfl) (fun _ _ _ h => h) hHeld (Or.inl ⟨by rfl, ?_⟩) ?_
  rotate_left
  · intro w hSw; (try dsimp only at hSw); go_simp
    try with_reducible rfl
  try simp only [Act.put, List.setIfInBounds_toArray, List.set_cons_zero, List.set_cons_succ]
  refine AnyT.take (i := 8) (oi := { dst := some 12, op := Op.load 3 (Operand.tmp 11), type := 3, pos := "layout.go:29", after := #[{ on := 7, ground := Ground.data }], guard := none }) (v := ?_) rfl (by kernel_rfl) (fun _ _ _ h => h) hHeld (Or.inl ⟨by rfl, ?_⟩) ?_
  rotate_left
  · intro w hSw; (try dsimp only at hSw); go_simp
    try with_reducible rfl
  try simp only [Act.put, List.setIfInBounds_toArray, List.set_cons_zero, List.set_cons_succ]
  refine AnyT.take (i := 9) (oi := { dst := some 13, op := Op.move (Operand.tmp 1), type := 3, pos := "layout.go:29", after := #[], guard := none }) (v := ?_) rfl (by kernel_rfl) (fun _ _ _ h => h) hHeld (Or.inl ⟨by rfl, ?_⟩) ?_
  rotate_left
  · intro w hSw; (try dsimp only at hSw); go_simp
    try with_reducible rfl
  try simp only [Act.put, List.setIfInBounds_toArray, List.set_cons_zero, List.set_cons_succ]
  refine AnyT.take (i := 10) (oi := { dst := some 14, op := Op.build 85 #[(0, Operand.tmp 12), (1, Operand.tmp 13)], type := 85, pos := "layout.go:29", after := #[{ on := 8, ground := Ground.data }, { on := 9, ground := Ground.data }], guard := none }) (v := ?_) rfl (by kernel_rfl) (fun _ _ _ h => h) hHeld (Or.inl ⟨by rfl, ?_⟩) ?_
  rotate_left
  · intro w hSw; (try dsimp only at hSw); go_simp
    try with_reducible rfl
  try simp only [Act.put, List.setIfInBounds_toArray, List.set_cons_zero, List.set_cons_succ]
  refine AnyT.step (i := 11) (oi := { dst := some 15, op := Op.buildSlice 89 1 #[(0, Operand.tmp 14)], type := 89, pos := "layout.go:29", after := #[{ on := 10, ground := Ground.data }], guard := none }) rfl rfl (by kernel_rfl) (fun K hK => ?_)
  go_simp
  refine hK.out _ _ ?_ (fun hHeld => ?_)
  · (try dsimp only); (refine Blk.cell (t := 91) ?_; (repeat' with_reducible (first | exact hb | apply Blk.drew | apply Blk.alloc | exact hb1)); done)
  clear hK K
  try simp only [Act.put, List.setIfInBounds_toArray, List.set_cons_zero, List.set_cons_succ]
  refine AnyT.step (i := 12) (oi := { dst := some 16, op := Op.call { callee := Callee.builtin Builtin.append, args := #[Operand.tmp 8, Operand.tmp 15], argTypes := #[89, 89] }, type := 89, pos := "layout.go:29", after := #[{ on := 4, ground := Ground.data }, { on := 11, ground := Ground.data }], guard := none }) rfl rfl (by kernel_rfl) (fun K hK => ?_)
  (refine wp_append_lies _ _ _ _ (by rfl) 0 85 i0 _ 2 16 Try.underlying89 hi hz0 hz1 hz2 rfl (by omega) (.slice la ln lc) ln xs (by rfl) (by repeat' with_reducible (first | exact hown | apply ownsRow_drew | apply World.ownsRow.alloc)) ⟨w.heap.size, 0, none⟩ 1 1 [.int .i64 en, .int .i64 size] (by rfl) (by rfl) (by exact news2 (t := 85) (by repeat' (first | with_reducible (apply Blk.drew) | (refine Blk.newAt ?_; first | rfl | (simp; done))))) (by simp [Value.oneCell']) (by omega) (by unfold maxLen; omega) (by omega) (by omega) _ rfl ?_; intro g cap w1 hown1 hgrow hat hlt1; have hb1 : Blk w1 b #[.int .i64 parts, .slice la ln lc, .int .i64 en] 91 := Blk.grown (by repeat' with_reducible (first | exact hb | apply Blk.drew | apply Blk.alloc)) hgrow o1; have hbf1 : ∀ j, w1.frozen? ⟨b, j, none⟩ = false := hb1.frozen; have hbc1 : ∀ j, w1.cell? ⟨b, j, none⟩ = (#[.int .i64 parts, .slice la ln lc, .int .i64 en] : Array Value)[j]? := hb1.cell)
  refine hK.out _ _ ?_ (fun hHeld => ?_)
  · (try dsimp only); (refine Blk.cell (t := 91) ?_; (repeat' with_reducible (first | exact hb | apply Blk.drew | apply Blk.alloc | exact hb1)); done)
  clear hK K
  try simp only [Act.put, List.setIfInBounds_toArray, List.set_cons_zero, List.set_cons_succ]
  refine AnyT.step (i := 13) (oi := { dst := some 17, op := Op.nilCheck (Operand.tmp 4), type := 0, pos := "layout.go:29", after := #[{ on := 0, ground := Ground.data }, { on := 0, ground := Ground.phase }, { on := 1, ground := Ground.phase }, { on := 2, ground := Ground.phase }, { on := 3, ground := Ground.phase }, { on := 4, ground := Ground.phase }, { on := 5, ground := Ground.phase }, { on := 6, ground := Ground.phase }, { on := 7, ground := Ground.phase }, { on := 8, ground := Ground.phase }, { on := 9, ground := Ground.phase }, { on := 10, ground := Ground.phase }, { on := 11, ground := Ground.phase }, { on := 12, ground := Ground.phase }], guard := none }) rfl rfl (by kernel_rfl) (fun K hK => ?_)
  go_simp
  refine hK.out _ _ ?_ (fun hHeld => ?_)
  · (try dsimp only); (refine Blk.cell (t := 91) ?_; (repeat' with_reducible (first | exact hb | apply Blk.drew | apply Blk.alloc | exact hb1)); done)
  clear hK K
  try simp only [Act.put, List.setIfInBounds_toArray, List.set_cons_zero, List.set_cons_succ]
  refine AnyT.take (i := 14) (oi := { dst := some 18, op := Op.fieldAddr 91 (Operand.tmp 17) 1, type := 0, pos := "layout.go:29", after := #[{ on := 13, ground := Ground.data }, { on := 0, ground := Ground.phase }, { on := 1, ground := Ground.phase }, { on := 2, ground := Ground.phase }, { on := 3, ground := Ground.phase }, { on := 4, ground := Ground.phase }, { on := 5, ground := Ground.phase }, { on := 6, ground := Ground.phase }, { on := 7, ground := Ground.phase }, { on := 8, ground := Ground.phase }, { on := 9, ground := Ground.phase }, { on := 10, ground := Ground.phase }, { on := 11, ground := Ground.phase }, { on := 12, ground := Ground.phase }], guard := none }) (v := ?_) rfl (by kernel_rfl) (fun _ _ _ h => h) hHeld (Or.inl ⟨by rfl, ?_⟩) ?_
  rotate_left
  · intro w hSw; (try dsimp only at hSw); go_simp
    try with_reducible rfl
  try simp only [Act.put, List.setIfInBounds_toArray, List.set_cons_zero, List.set_cons_succ]
  refine AnyT.last (i := 15) (oi := { dst := none, op := Op.store 89 (Operand.tmp 18) (Operand.tmp 16), type := 0, pos := "layout.go:29", after := #[{ on := 14, ground := Ground.data }, { on := 12, ground := Ground.data }, { on := 12, ground := Ground.chain }, { on := 0, ground := Ground.phase }, { on := 1, ground := Ground.phase }, { on := 2, ground := Ground.phase }, { on := 3, ground := Ground.phase }, { on := 4, ground := Ground.phase }, { on := 5, ground := Ground.phase }, { on := 6, ground := Ground.phase }, { on := 7, ground := Ground.phase }, { on := 8, ground := Ground.phase }, { on := 9, ground := Ground.phase }, { on := 10, ground := Ground.phase }, { on := 11, ground := Ground.phase }, { on := 12, ground := Ground.phase }], guard := none }) rfl rfl rfl (by kernel_rfl) (by kernel_rfl) (fun K hK => ?_)
  go_simp
  refine hK.out _ _ ?_
  clear hK K
  try simp only [Act.put, List.setIfInBounds_toArray, List.set_cons_zero, List.set_cons_succ]
  have hb2 : Blk (w1.setCell ⟨b, 1, none⟩ (.slice (some ⟨g, 0, none⟩) (ln + 1) cap)) b #[.int .i64 parts, .slice (some ⟨g, 0, none⟩) (ln + 1) cap, .int .i64 en] 91 := hb1.set 1 _
  have hgb : some b ≠ (Value.slice (some ⟨g, 0, none⟩) (ln + 1) cap).ownBlock := by
    intro e
    rcases hat with hat | hat
    · exact o1 (e.trans hat.symm)
    · simp [Value.ownBlock] at e
      simp at hat
      omega
  have hgb' : g ≠ b := fun e => hgb (by simp [Value.ownBlock, e])
  have hown2 := ownsRow_other hown1 (a := ⟨b, 1, none⟩) hgb (.slice (some ⟨g, 0, none⟩) (ln + 1) cap)
  have hk2 : Keeps (b :: (Value.slice la ln lc).ownBlock.toList) w (w1.setCell ⟨b, 1, none⟩ (.slice (some ⟨g, 0, none⟩) (ln + 1) cap)) := by
    refine Keeps.setCell (Keeps.grown ?_ hgrow ?_) (by simp) _
    · (repeat' with_reducible (first | exact Keeps.refl _ _ | apply Keeps.drew | apply Keeps.alloc))
    · intro k hk _
      rw [hk]; simp
  have hat2 : (Value.slice la ln lc).ownBlock = some g ∨ w.heap.size ≤ g := hat.imp id (fun e => by simp at e; omega)
  generalize w1.setCell ⟨b, 1, none⟩ (.slice (some ⟨g, 0, none⟩) (ln + 1) cap) = w2 at *
  clear hgrow hb1 hbc1 hbf1 hHeld hat hown1 hbc
  have hbc2 : ∀ j, w2.cell? ⟨b, j, none⟩ = (#[.int .i64 parts, .slice (some ⟨g, 0, none⟩) (ln + 1) cap, .int .i64 en] : Array Value)[j]? := hb2.cell
  have hbf2 : ∀ j, w2.frozen? ⟨b, j, none⟩ = false := hb2.frozen
  go_wp2
  go_end0
  exact ⟨g, cap, rfl, Keeps.setCell hk2 (by simp) _, hb2.set 2 _, ownsRow_other hown2 hgb _, hat2, hgb'⟩

end Go.Proofs.Ytpkjffiajidfcaa

/- of, of package layout: the plan of an accepted configuration. -/
namespace Go.Proofs.Ytpkjffiajidfcaa
open Go.RowKit

theorem anyOf_no {g : Nat → Bool} {n : Nat} (h : anyOf g n = false) {i : Nat} (hi : i < n) : g i = false := by
  cases hg : g i
  · rfl
  · rw [anyOf_true hi hg] at h; cases h

theorem acc_rule {c : CfgV} (h : spAcc c = true) {i : Nat} (hi : i < 17) : spRule c i = false := by
  cases hr : spRule c i
  · rfl
  · unfold spAcc at h
    rw [List.isEmpty_iff] at h
    have : i + 1 ∈ defs c 17 := by
      unfold defs
      rw [List.mem_map]
      exact ⟨i, by rw [List.mem_filter]; exact ⟨by simpa using hi, hr⟩, rfl⟩
    rw [h] at this
    cases this

/-- What is known of an accepted configuration. -/
structure Accd (c : CfgV) : Prop where
  pn1 : 1 ≤ c.pn
  pn6 : c.pn ≤ 6
  cn8 : c.cn ≤ 8
  priv : ∀ i, i < c.pn → 0 ≤ c.part i 1 ∧ c.part i 1 ≤ 64
  core : ∀ i, i < c.pn → 0 ≤ c.part i 0 ∧ c.part i 0 ≤ 1
  kind : ∀ i, i < c.cn → c.chan i 0 = 1 ∨ c.chan i 0 = 2
  ends : ∀ i, i < c.cn → 0 ≤ c.chan i 1 ∧ c.chan i 1 < c.pn ∧ 0 ≤ c.chan i 2 ∧ c.chan i 2 < c.pn
  words : ∀ i, i < c.cn → 1 ≤ c.chan i 3 ∧ c.chan i 3 ≤ 16
  deep : ∀ i, i < c.cn → 0 ≤ c.chan i 4 ∧ c.chan i 4 ≤ 8
  deep1 : ∀ i, i < c.cn → c.chan i 0 = 1 → c.chan i 4 = 0
  deep2 : ∀ i, i < c.cn → c.chan i 0 = 2 → c.chan i 4 = 1 ∨ c.chan i 4 = 2 ∨ c.chan i 4 = 4 ∨ c.chan i 4 = 8
  period : ∀ i, i < c.cn → 0 ≤ c.chan i 5 ∧ c.chan i 5 ≤ 1048576

theorem accd {c : CfgV} (h : spAcc c = true) : Accd c := by
  have r0 := acc_rule h (i := 0) (by omega)
  have r1 := acc_rule h (i := 1) (by omega)
  have r2 := acc_rule h (i := 2) (by omega)
  have r3 := acc_rule h (i := 3) (by omega)
  have r4 := acc_rule h (i := 4) (by omega)
  have r5 := acc_rule h (i := 5) (by omega)
  have r7 := acc_rule h (i := 7) (by omega)
  have r8 := acc_rule h (i := 8) (by omega)
  have r9 := acc_rule h (i := 9) (by omega)
  simp only [spRule] at r0 r1 r2 r3 r4 r5 r7 r8 r9
  have k4 : ∀ i, i < c.cn → c.chan i 0 = 1 ∨ c.chan i 0 = 2 := fun i hi => by
    have := anyOf_no r4 hi
    simp at this
    omega
  have d1 : ∀ i, i < c.cn → c.chan i 0 = 1 → c.chan i 4 = 0 := fun i hi h1 => by
    have := anyOf_no r8 hi
    simp [spDeep, h1] at this
    omega
  have d2 : ∀ i, i < c.cn → c.chan i 0 = 2 → c.chan i 4 = 1 ∨ c.chan i 4 = 2 ∨ c.chan i 4 = 4 ∨ c.chan i 4 = 8 := fun i hi h1 => by
    have := anyOf_no r8 hi
    simp [spDeep, h1] at this
    omega
  refine ⟨?_, ?_, ?_, fun i hi => ?_, fun i hi => ?_, k4, fun i hi => ?_, fun i hi => ?_, fun i hi => ?_, d1, d2, fun i hi => ?_⟩
  · simp [inR] at r0; omega
  · simp [inR] at r0; omega
  · simp at r3; omega
  · have := anyOf_no r2 hi
    simp [inR] at this
    omega
  · have := anyOf_no r1 hi
    simp [inR] at this
    omega
  · have := anyOf_no r5 hi
    simp [inR] at this
    omega
  · have := anyOf_no r7 hi
    simp [inR] at this
    omega
  · rcases k4 i hi with hk | hk
    · have := d1 i hi hk; omega
    · have := d2 i hi hk; omega
  · have := anyOf_no r9 hi
    rcases k4 i hi with hk | hk
    · simp [spFresh, hk, inR] at this; omega
    · simp [spFresh, hk] at this; omega

def sumTo (f : Nat → Int) : Nat → Int
  | 0 => 0
  | n + 1 => sumTo f n + f n

theorem sumTo_bd {f : Nat → Int} {m : Int} : ∀ {n : Nat}, (∀ i, i < n → 0 ≤ f i ∧ f i ≤ m) → 0 ≤ sumTo f n ∧ sumTo f n ≤ m * n := by
  intro n
  induction n with
  | zero => intro _; simp [sumTo]
  | succ n ih =>
    intro h
    have h1 := ih fun i hi => h i (by omega)
    have h2 := h n (by omega)
    simp only [sumTo]
    have e : m * ((n + 1 : Nat) : Int) = m * n + m := by
      rw [Int.natCast_add, Int.mul_add]; simp
    omega

def spPriv (c : CfgV) (i : Nat) : Int := sumTo (fun i => c.part i 1) i
def spSz (c : CfgV) (k : Nat) : Int := spSized (c.chan k 0) (c.chan k 3) (c.chan k 4)
/-- Where channel k's words begin. -/
def spBefore (c : CfgV) (k : Nat) : Int := spPriv c c.pn + sumTo (fun k => spSz c k + 1) k

/-- The plan's i-th span: where it begins, how long it is. -/
def spRow (c : CfgV) (i j : Nat) : Int :=
  if i < c.pn then (if j = 0 then spPriv c i else c.part i 1)
  else if (i - c.pn) % 2 = 0 then (if j = 0 then spBefore c ((i - c.pn) / 2) else spSz c ((i - c.pn) / 2))
  else (if j = 0 then spBefore c ((i - c.pn) / 2) + spSz c ((i - c.pn) / 2) else 1)

theorem spSz_bd {c : CfgV} (h : Accd c) {k : Nat} (hk : k < c.cn) : 0 ≤ spSz c k ∧ spSz c k ≤ 137 := by
  have h3 := h.words k hk
  have h4 := h.deep k hk
  have k0 : 0 ≤ c.chan k 4 * (1 + c.chan k 3) := Int.mul_nonneg h4.1 (by omega)
  have k1 : c.chan k 4 * (1 + c.chan k 3) ≤ 8 * 17 := Int.mul_le_mul h4.2 (by omega) (by omega) (by omega)
  unfold spSz spSized
  split <;> omega

theorem spPriv_bd {c : CfgV} (h : Accd c) {i : Nat} (hi : i ≤ c.pn) : 0 ≤ spPriv c i ∧ spPriv c i ≤ 384 := by
  have h1 := sumTo_bd (f := fun i => c.part i 1) (m := 64) (n := i) (fun j hj => h.priv j (by omega))
  have := h.pn6
  unfold spPriv
  omega

theorem spBefore_bd {c : CfgV} (h : Accd c) {k : Nat} (hk : k ≤ c.cn) : 0 ≤ spBefore c k ∧ spBefore c k ≤ 1488 := by
  have h1 := sumTo_bd (f := fun k => spSz c k + 1) (m := 138) (n := k) (fun j hj => by have := spSz_bd h (k := j) (by omega); omega)
  have := h.cn8
  have := spPriv_bd h (Nat.le_refl c.pn)
  unfold spBefore
  omega

def rowsL (f : Nat → Nat → Value) : Nat → List Value
  | 0 => []
  | n + 1 => rowsL f n ++ [f n 0, f n 1]

theorem rowsL_len (f : Nat → Nat → Value) (n : Nat) : (rowsL f n).length = n * 2 := by
  induction n with
  | zero => rfl
  | succ n ih => simp [rowsL, ih]; omega

theorem rowsL_get (f : Nat → Nat → Value) : ∀ (n i : Nat), i < n → ∀ j, j < 2 → (rowsL f n)[i * 2 + j]? = some (f i j) := by
  intro n
  induction n with
  | zero => intro i h; omega
  | succ n ih =>
    intro i hi j hj
    have hl := rowsL_len f n
    simp only [rowsL]
    by_cases e : i < n
    · rw [List.getElem?_append_left (by omega)]
      exact ih i e j hj
    · obtain rfl : i = n := by omega
      rw [List.getElem?_append_right (by omega)]
      match j with
      | 0 => simp [hl]
      | 1 => simp [hl]
      | j + 2 => omega

theorem rows_of_owns {w : World} {cap n : Nat} {a : Option Addr} {f : Nat → Nat → Value} {t : TypeId} (h : w.ownsRow 0 t 2 (.slice a n cap) n (rowsL f n)) :
    Rows w a n 2 f := by
  rcases h.2 with ⟨_, hx⟩ | ⟨g', cap', cur, hv, _, hg, hl, _, hs, ht⟩
  · exact .inl hx
  · cases hv
    refine .inr ⟨g', 0, rfl, lt_of_block hg, fun i hi j hj => ?_⟩
    have h1 := rowsL_get f n i hi j hj
    rw [← ht, List.getElem?_take, if_pos (by omega)] at h1
    simp only [World.cell?, hg]
    rw [Nat.zero_add]
    simpa using h1

theorem Keeps.fresh {l : List Nat} {w W W' : World} (h : Keeps [] w W) (k : Keeps l W W') (hl : ∀ x, x ∈ l → w.heap.size ≤ x) : Keeps [] w W' :=
  ⟨k.os.trans h.os, k.tape.trans h.tape, k.output.trans h.output, Nat.le_trans h.size k.size, fun i hi _ => (k.block i (Nat.lt_of_lt_of_le hi h.size) (fun e => by have := hl i e; omega)).trans (h.block i hi (by simp))⟩


def PlanIs (w : World) (pb n : Nat) (pn en : Int) (f : Nat → Nat → Value) : Prop :=
  ∃ a cap, Blk w pb #[.int .i64 pn, .slice a n cap, .int .i64 en] 91 ∧ w.ownsRow 0 85 2 (.slice a n cap) n (rowsL f n) ∧ ∀ g, (Value.slice a n cap).ownBlock = some g → pb < g

/-- What stands at a place in the loops of `of`: the configuration's block, the result's, the plan's. -/
structure PlanAt (c : CfgV) (w : World) (b0 b1 pb n : Nat) (en : Int) (wr : World) : Prop where
  keep : Keeps [] w wr
  cfg : Blk wr b0 c.cells 31
  res : Blk wr b1 #[.int .i64 0, .slice none 0 0, .int .i64 0] 91
  plan : PlanIs wr pb n c.pn en (i64s (spRow c))

theorem PlanAt.ext {c : CfgV} {w : World} {b0 b1 pb n : Nat} {en : Int} {wr w' : World} (h : PlanAt c w b0 b1 pb n en wr) (k : Keeps [] wr w') : PlanAt c w b0 b1 pb n en w' := by
  obtain ⟨a, cap, hb, ho, hg⟩ := h.plan
  refine ⟨h.keep.trans k, h.cfg.keep k (by simp), h.res.keep k (by simp), a, cap, hb.keep k (by simp), ⟨ho.1, ?_⟩, hg⟩
  rcases ho.2 with hx | ⟨g', cap', cur, hv, h0, hg', hr⟩
  · exact .inl hx
  · exact .inr ⟨g', cap', cur, hv, h0, (k.block g' (lt_of_block hg') (by simp)).trans hg', hr⟩

/-- put, called on the plan. -/
theorem put_at (c : CfgV) (w : World) (b0 b1 pb n : Nat) (en size : Int) (W : World) (h : PlanAt c w b0 b1 pb n en W) (hb0 : b0 < pb) (hb1 : b1 < pb) (hpb : w.heap.size ≤ pb) (hn : n ≤ 100)
    (he0 : 0 ≤ en) (he1 : en ≤ 65536) (hs0 : 0 ≤ size) (hs1 : size ≤ 65536) (r0 : spRow c n 0 = en) (r1 : spRow c n 1 = size) :
    Calls Try.prog 46 #[.pointer (some ⟨pb, 0, none⟩), .int .i64 size] W fun e w' => e = .returned (.tuple #[]) ∧ PlanAt c w b0 b1 pb (n + 1) (en + size) w' ∧ W.heap.size ≤ w'.heap.size := by
  obtain ⟨a, cap, hb, ho, hg⟩ := h.plan
  refine (put_any pb n cap a c.pn en size _ W hb ho (fun e => by have := hg pb e.symm; omega) hn he0 he1 hs0 hs1).mono ?_
  rintro e w' ⟨g, cap', rfl, hk, hb', ho', hat, hne⟩
  have hg' : pb < g := by
    rcases hat with hat | hat
    · exact hg g hat
    · have := hb.lt; omega
  have hl : ∀ x, x ∈ pb :: (Value.slice a n cap).ownBlock.toList → pb ≤ x := by
    intro x hx
    simp only [List.mem_cons, Option.mem_toList] at hx
    rcases hx with rfl | hx
    · exact Nat.le_refl _
    · have := hg x hx; omega
  refine ⟨rfl, ⟨h.keep.fresh hk fun x hx => by have := hl x hx; omega, h.cfg.keep hk fun hx => by have := hl _ hx; omega, h.res.keep hk fun hx => by have := hl _ hx; omega, some ⟨g, 0, none⟩, cap', hb', ?_, ?_⟩, hk.size⟩
  · have e : rowsL (i64s (spRow c)) (n + 1) = rowsL (i64s (spRow c)) n ++ [.int .i64 en, .int .i64 size] := by
      simp only [rowsL, i64s, r0, r1]
    rw [e]
    exact ho'
  · intro g2 e2
    simp [Value.ownBlock] at e2
    omega

theorem ret_plan {fn : Func} {R : Ending → World → Prop} {a : Act} {W : World} {rb k : Nat} {x y z : Value}
    (hf : fn.results = #[.cell k 91]) (h6 : a.tmps.getD k undef = .pointer (some ⟨rb, 0, none⟩)) (hd : a.defers = [])
    (hb : Blk W rb #[x, y, z] 91) (hR : R (.returned (.agg #[x, y, z])) W) : bodyPost Try.prog fn R .ret a W := by
  have hc : ∀ j, W.cell? ⟨rb, j, none⟩ = (#[x, y, z] : Array Value)[j]? := hb.cell
  rw [Array.getD_eq_getD_getElem?] at h6
  refine bodyPost_ret ?_ hd hR
  simp [results, hf, h6, go_sem, hc]

theorem ret_span {fn : Func} {R : Ending → World → Prop} {a : Act} {W : World} {rb k : Nat} {x y : Value}
    (hf : fn.results = #[.cell k 85]) (h6 : a.tmps.getD k undef = .pointer (some ⟨rb, 0, none⟩)) (hd : a.defers = [])
    (hb : Blk W rb #[x, y] 85) (hR : R (.returned (.agg #[x, y])) W) : bodyPost Try.prog fn R .ret a W := by
  have hc : ∀ j, W.cell? ⟨rb, j, none⟩ = (#[x, y] : Array Value)[j]? := hb.cell
  rw [Array.getD_eq_getD_getElem?] at h6
  refine bodyPost_ret ?_ hd hR
  simp [results, hf, h6, go_sem, hc]

/-- What `of` answers. -/
def PlanPost (c : CfgV) (w : World) (e : Ending) (w' : World) : Prop :=
  ∃ a cap, e = .returned (.agg #[.int .i64 c.pn, .slice a (c.pn + 2 * c.cn) cap, .int .i64 (spBefore c c.cn)]) ∧ Keeps [] w w' ∧ Rows w' a (c.pn + 2 * c.cn) 2 (i64s (spRow c))

theorem spRow_priv (c : CfgV) {i : Nat} (hi : i < c.pn) : spRow c i 0 = spPriv c i ∧ spRow c i 1 = c.part i 1 := by simp [spRow, hi]
theorem spRow_src (c : CfgV) (k : Nat) : spRow c (c.pn + 2 * k) 0 = spBefore c k ∧ spRow c (c.pn + 2 * k) 1 = spSz c k := by
  have e4 : ¬ c.pn + 2 * k < c.pn := by omega
  simp [spRow, e4]
theorem spRow_dst (c : CfgV) (k : Nat) : spRow c (c.pn + 2 * k + 1) 0 = spBefore c k + spSz c k ∧ spRow c (c.pn + 2 * k + 1) 1 = 1 := by
  have e1 : c.pn + 2 * k + 1 - c.pn = 2 * k + 1 := by omega
  have e2 : (2 * k + 1) / 2 = k := by omega
  have e3 : (2 * k + 1) % 2 = 1 := by omega
  have e4 : ¬ c.pn + 2 * k + 1 < c.pn := by omega
  simp [spRow, e1, e2, e3, e4]

set_option maxRecDepth 100000 in
set_option maxHeartbeats 4000000 in
theorem of_any (c : CfgV) (w : World) (h : CfgAt w c) (ha : spAcc c = true) : Calls Try.prog 34 #[.agg c.cells] w (PlanPost c w) := by
  have hA := accd ha
  have Hc := Lib.hid h
  have Hpriv := Lib.hid hA.priv
  have HA := Lib.hid hA
  have hpn6 := hA.pn6
  have hcn8 := hA.cn8
  clear h hA
  have hmf : ∀ (fn : Fn) (first cap : Array Value) (w : World), (Instr.makeFunc fn first cap).run Try.prog w = .ok (.func fn first cap) w := fun _ _ _ _ => rfl
  simp only [CfgV.cells]
  go_enter Try.func34, Try.ntmps34
  go_wp2_with (first | (go_at_call 45; ((with_reducible refine (Accepts_any c _ ?_).mono ?_); (exact Hc.out.kept (by (repeat' with_reducible (first | exact Keeps.refl _ _ | assumption | apply Keeps.drew | apply Keeps.drewN | apply Keeps.alloc))))); rintro e w1 ⟨rfl, hk1⟩; have B0 : Blk w1 w.heap.size c.cells 31 := Blk.keep (l := []) (by (repeat' (first | with_reducible (first | assumption | apply Blk.drew | (refine Blk.newAt ?_; first | rfl | (simp; done)) | apply Blk.alloc)))) hk1 (by simp); have B1 : Blk w1 (w.heap.size + 1) #[.int .i64 0, .slice none 0 0, .int .i64 0] 91 := Blk.keep (l := []) (by (repeat' (first | with_reducible (first | assumption | apply Blk.drew | (refine Blk.newAt ?_; first | rfl | (simp; done)) | apply Blk.alloc)))) hk1 (by simp); have C0 := B0.cell; have hs1 := hk1.size; have hl0 := B0.lt; have hl1 := B1.lt; rw [ha]) | (fail))

  clear C0
  have hkw1 : Keeps [] w w1 := Keeps.trans (by (repeat' with_reducible (first | exact Keeps.refl _ _ | assumption | apply Keeps.drew | apply Keeps.drewN | apply Keeps.alloc))) hk1
  have P0 : PlanAt c w w.heap.size (w.heap.size + 1) w1.heap.size 0 (spPriv c 0) (w1.alloc (.cells #[.int .i64 c.pn, .slice none 0 0, .int .i64 0] 91)) := ⟨hkw1.alloc _, B0.alloc _, B1.alloc _, none, 0, Blk.newAt rfl, ⟨rfl, .inl ⟨rfl, rfl⟩⟩, by intro g hg; cases hg⟩
  have hpb1 := hkw1.size
  generalize hpb : w1.heap.size = pb at *
  generalize hb0 : w.heap.size = b0 at *
  generalize w1.alloc (.cells #[.int .i64 c.pn, .slice none 0 0, .int .i64 0] 91) = w2 at *
  clear hk1 hkw1 hs1 B0 B1 hpb
  go_loopw [21] (fun v wr => ∃ i : Nat, i ≤ c.pn ∧ v = .int .i64 i ∧ PlanAt c w b0 (b0 + 1) pb i (spPriv c i) wr) (fun v _ => c.pn - (intOf v).toNat)
  case atStart => exact ⟨0, Nat.zero_le _, rfl, P0⟩
  case round =>
    obtain ⟨i, hi, rfl, hp⟩ := hrel
    have hbx := hp.cfg
    have hbl := hbx.lt
    have hbc := hbx.cell
    obtain ⟨pa0, pc0, hplan, howns, hown⟩ := hp.plan
    have hpl := hplan.lt
    clear hplan howns hown
    have Hp := Lib.hid hp
    by_cases hlt : i < c.pn
    · obtain ⟨b, o, hpa, hb, hrow⟩ := Hc.out.parts.resolve_left (by omega)
      have hi0 : (0 : Int) ≤ (i : Int) := Int.natCast_nonneg _
      have hi1 : (i : Int) < (c.pn : Int) := by omega
      have hbr : b < wr.heap.size := by have := hp.keep.size; omega
      have c0 : wr.cell? ⟨b, o + i * 2, none⟩ = some (.int .i64 (c.part i 0)) := (Keeps.cell hp.keep hb (by simp)).trans (by simpa [i64s] using hrow i hlt 0 (by omega))
      have c1 : wr.cell? ⟨b, o + i * 2 + 1, none⟩ = some (.int .i64 (c.part i 1)) := (Keeps.cell hp.keep hb (by simp)).trans (hrow i hlt 1 (by omega))
      have hpv := Hpriv.out i hlt
      have hpb := spPriv_bd HA.out (i := i) (by omega)
      clear hrow hp hbx
      go_wp2_with (first | (go_at_call 46; ((with_reducible refine (put_at c w b0 (b0 + 1) pb i (spPriv c i) (c.part i 1) _ (Hp.out.ext ?_) (by omega) (by omega) (by omega) (by omega) hpb.1 (by omega) hpv.1 (by omega) (spRow_priv c hlt).1 (spRow_priv c hlt).2).mono ?_); (repeat' with_reducible (first | exact Keeps.refl _ _ | assumption | apply Keeps.drew | apply Keeps.drewN | apply Keeps.alloc))); rintro e w3 ⟨rfl, hp3, hs3⟩) | (fail))
      rw [← hpa]
      go_roundw
      case rel => exact ⟨i + 1, by omega, by go_num, hp3⟩
      case measure => simp [intOf]; omega
    · obtain rfl : i = c.pn := by omega
      go_wp2_with fail
      have P1 : PlanAt c w b0 (b0 + 1) pb (c.pn + 2 * 0) (spBefore c 0) wr := by
        have e : spBefore c 0 = spPriv c c.pn := by simp [spBefore, sumTo]
        rw [e]
        exact Hp.out
      clear hp Hp hbx hbc hbl hpl hlt P0
      have Ht := Lib.hid hi
      clear hi
      generalize hwr : wr = w5 at *
      clear hwr
      go_loopw [33] (fun v wr => ∃ i : Nat, i ≤ c.cn ∧ v = .int .i64 i ∧ PlanAt c w b0 (b0 + 1) pb (c.pn + 2 * i) (spBefore c i) wr) (fun v _ => c.cn - (intOf v).toNat)
      case atStart => exact ⟨0, Nat.zero_le _, rfl, P1⟩
      case round =>
        obtain ⟨i, hi, rfl, hp⟩ := hrel
        have hbx := hp.cfg
        have hbl := hbx.lt
        have hbc := hbx.cell
        have hrx := hp.res
        have hrl := hrx.lt
        obtain ⟨pa0, pc0, hplan, howns, hown⟩ := hp.plan
        have hpl := hplan.lt
        have Hp := Lib.hid hp
        by_cases hlt : i < c.cn
        · clear hplan howns hown hrx
          obtain ⟨b, o, hpa, hb, hrow⟩ := Hc.out.chans.resolve_left (by omega)
          have hi0 : (0 : Int) ≤ (i : Int) := Int.natCast_nonneg _
          have hi1 : (i : Int) < (c.cn : Int) := by omega
          have hbr : b < wr.heap.size := by have := hp.keep.size; omega
          have c0 : wr.cell? ⟨b, o + i * 7, none⟩ = some (.int .i64 (c.chan i 0)) := (Keeps.cell hp.keep hb (by simp)).trans (by simpa [chs] using hrow i hlt 0 (by omega))
          have c1 : wr.cell? ⟨b, o + i * 7 + 1, none⟩ = some (.int .i64 (c.chan i 1)) := (Keeps.cell hp.keep hb (by simp)).trans (by simpa [chs] using hrow i hlt 1 (by omega))
          have c2 : wr.cell? ⟨b, o + i * 7 + 2, none⟩ = some (.int .i64 (c.chan i 2)) := (Keeps.cell hp.keep hb (by simp)).trans (by simpa [chs] using hrow i hlt 2 (by omega))
          have c3 : wr.cell? ⟨b, o + i * 7 + 3, none⟩ = some (.int .i64 (c.chan i 3)) := (Keeps.cell hp.keep hb (by simp)).trans (by simpa [chs] using hrow i hlt 3 (by omega))
          have c4 : wr.cell? ⟨b, o + i * 7 + 4, none⟩ = some (.int .i64 (c.chan i 4)) := (Keeps.cell hp.keep hb (by simp)).trans (by simpa [chs] using hrow i hlt 4 (by omega))
          have c5 : wr.cell? ⟨b, o + i * 7 + 5, none⟩ = some (.int .i64 (c.chan i 5)) := (Keeps.cell hp.keep hb (by simp)).trans (by simpa [chs] using hrow i hlt 5 (by omega))
          have c6 : wr.cell? ⟨b, o + i * 7 + 6, none⟩ = some (.int .u32 (c.chan i 6)) := (Keeps.cell hp.keep hb (by simp)).trans (by simpa [chs] using hrow i hlt 6 (by omega))
          have hsz := spSz_bd HA.out hlt
          have hsz' : 0 ≤ spSized (c.chan i 0) (c.chan i 3) (c.chan i 4) ∧ spSized (c.chan i 0) (c.chan i 3) (c.chan i 4) ≤ 137 := hsz
          have hr1 : spRow c (c.pn + 2 * i) 1 = spSized (c.chan i 0) (c.chan i 3) (c.chan i 4) := (spRow_src c i).2
          have hen : spBefore c i + spSz c i = spBefore c i + spSized (c.chan i 0) (c.chan i 3) (c.chan i 4) := rfl
          have hd1 : spRow c (c.pn + 2 * i + 1) 0 = spBefore c i + spSized (c.chan i 0) (c.chan i 3) (c.chan i 4) := (spRow_dst c i).1
          have hpb := spBefore_bd HA.out (k := i) (by omega)
          have hwd := HA.out.words i hlt
          have hdp := HA.out.deep i hlt
          clear hrow hp hbx
          go_wp2_with (first | (go_at_call 47; (with_reducible refine (sized_any _ _ _ _ _ _ _ _ (by omega) hwd.2 hdp.1 hdp.2).mono ?_); rintro e w3 ⟨rfl, hk3⟩; have hs3 := hk3.size; have hpx := Hp.out.ext (Keeps.trans (by (repeat' with_reducible (first | exact Keeps.refl _ _ | assumption | apply Keeps.drew | apply Keeps.drewN | apply Keeps.alloc))) hk3)) | (go_at_call 46; ((with_reducible refine (put_at c w b0 (b0 + 1) pb (c.pn + 2 * i) (spBefore c i) (spSized (c.chan i 0) (c.chan i 3) (c.chan i 4)) _ (hpx.ext ?_) (by omega) (by omega) (by omega) (by omega) hpb.1 (by omega) hsz'.1 (by omega) (spRow_src c i).1 hr1).mono ?_); (repeat' with_reducible (first | exact Keeps.refl _ _ | assumption | apply Keeps.drew | apply Keeps.drewN | apply Keeps.alloc))); rintro e w4 ⟨rfl, hp4, hs4⟩) | (go_at_call 46; ((with_reducible refine (put_at c w b0 (b0 + 1) pb (c.pn + 2 * i + 1) (spBefore c i + spSized (c.chan i 0) (c.chan i 3) (c.chan i 4)) 1 _ (PlanAt.ext hp4 ?_) (by omega) (by omega) (by omega) (by omega) (by omega) (by omega) (by omega) (by omega) hd1 (spRow_dst c i).2).mono ?_); (repeat' with_reducible (first | exact Keeps.refl _ _ | assumption | apply Keeps.drew | apply Keeps.drewN | apply Keeps.alloc))); rintro e w5 ⟨rfl, hp5, hs5⟩) | (fail))
          rw [← hpa]
          go_roundw
          case rel =>
            have e : spBefore c (i + 1) = spBefore c i + spSz c i + 1 := by simp only [spBefore, sumTo]; omega
            refine ⟨i + 1, by omega, by go_num, ?_⟩
            rw [e]
            exact hp5
          case measure => simp [intOf]; omega
        · obtain rfl : i = c.cn := by omega
          have hplan' := hplan
          have hrx' := hrx
          have hpc := hplan.cell
          have hrc := hrx.cell
          have hrf := hrx.frozen
          have hne : b0 + 1 ≠ pb := by omega
          have hne' : pb ≠ b0 + 1 := by omega
          have Hplan := Lib.hid hplan
          have Hrx := Lib.hid hrx
          have Hown := Lib.hid howns
          have Hown2 := Lib.hid hown
          clear hplan hrx hplan' hrx' howns hown hp hbx
          go_wp2_with fail
          refine ret_plan (k := 2) rfl rfl rfl (((Hrx.out.set 0 _).set 1 _).setTo (i := 2) rfl) ⟨pa0, pc0, rfl, ?_, ?_⟩
          · exact (((Hp.out.keep).setCell (fun h => by dsimp only at h; omega) _).setCell (fun h => by dsimp only at h; omega) _).setCell (fun h => by dsimp only at h; omega) _
          · refine Rows.keep (l := [b0 + 1]) (rows_of_owns Hown.out) ((((Keeps.refl _ _).setCell (by simp) _).setCell (by simp) _).setCell (by simp) _) ?_
            intro bb hbb hm
            simp only [List.mem_singleton] at hm
            have h2 := Hown2.out bb (by cases pa0 with | none => simp [blockOf] at hbb | some a => simpa [blockOf, Value.ownBlock] using hbb)
            omega

end Go.Proofs.Ytpkjffiajidfcaa

/- chans, at, Source, Dest of package layout. -/
namespace Go.Proofs.Ytpkjffiajidfcaa
open Go.RowKit

/-- What stands in the loop of `chans`. -/
structure OutAt (w : World) (b0 k : Nat) (f : Nat → Nat → Int) (pv : Array Value) (wr : World) : Prop where
  keep : Keeps [] w wr
  arg : Blk wr b0 pv 91
  res : Blk wr (b0 + 1) #[.int .i64 0, .slice none 0 0, .int .i64 0] 91
  out : PlanIs wr (b0 + 2) k 0 0 (i64s f)

def ChansPost (m : Nat) (f : Nat → Nat → Int) (w : World) (e : Ending) (w' : World) : Prop :=
  ∃ a cap, e = .returned (.agg #[.int .i64 0, .slice a m cap, .int .i64 0]) ∧ Keeps [] w w' ∧ Rows w' a m 2 (i64s f)

set_option maxRecDepth 100000 in
set_option maxHeartbeats 4000000 in
theorem chans_any (pn m sec ln lc : Nat) (la : Option Addr) (en s : Int) (f : Nat → Nat → Int) (w : World) (hs : s = (sec : Int)) (hsec : sec ≤ 1) (hln : ln = pn + 2 * m) (hm : ln ≤ 100) (hr : Rows w la ln 2 (i64s f)) :
    Calls Try.prog 35 #[.agg #[.int .i64 (pn : Int), .slice la ln lc, .int .i64 en], .int .i64 s] w (ChansPost m (fun k j => f (pn + sec + 2 * k) j) w) := by
  subst hs
  obtain ⟨i0, hi, hz0, hz1, hz2⟩ := info_parts info_span
  have Hi := Lib.hid hi
  have Hr := Lib.hid hr
  have Hln := Lib.hid hln
  have hpn : pn ≤ 100 := by omega
  have hmm : m ≤ 100 := by omega
  clear hi hr hln
  go_enter Try.func35, Try.ntmps35
  go_wp2_with fail
  have hb1 : Blk (((w.alloc (.cells #[.int .i64 (pn : Int), .slice la ln lc, .int .i64 en] 91)).alloc (.cells #[.int .i64 0, .slice none 0 0, .int .i64 0] 91)).alloc (.cells #[.int .i64 0, .slice none 0 0, .int .i64 0] 91)) (w.heap.size + 2) #[.int .i64 0, .slice none 0 0, .int .i64 0] 91 := Blk.newAt (by simp)
  have P0 : OutAt w w.heap.size 0 (fun k j => f (pn + sec + 2 * k) j) #[.int .i64 (pn : Int), .slice la ln lc, .int .i64 en] (((w.alloc (.cells #[.int .i64 (pn : Int), .slice la ln lc, .int .i64 en] 91)).alloc (.cells #[.int .i64 0, .slice none 0 0, .int .i64 0] 91)).alloc (.cells #[.int .i64 0, .slice none 0 0, .int .i64 0] 91)) :=
    ⟨((Keeps.refl _ _).alloc _).alloc _ |>.alloc _, ((Blk.new _ _ _).alloc _).alloc _, (Blk.newAt (by simp)).alloc _, none, 0, hb1, ⟨rfl, .inl ⟨rfl, rfl⟩⟩, by intro g hg; cases hg⟩
  generalize ((w.alloc (.cells #[.int .i64 (pn : Int), .slice la ln lc, .int .i64 en] 91)).alloc (.cells #[.int .i64 0, .slice none 0 0, .int .i64 0] 91)).alloc (.cells #[.int .i64 0, .slice none 0 0, .int .i64 0] 91) = w2 at *
  clear hb1
  generalize hb0 : w.heap.size = b0 at *
  go_loopw [6] (fun v wr => ∃ k q : Nat, k ≤ m ∧ q = pn + sec + 2 * k ∧ v = .int .i64 (q : Int) ∧ OutAt w b0 k (fun k j => f (pn + sec + 2 * k) j) #[.int .i64 (pn : Int), .slice la ln lc, .int .i64 en] wr) (fun v _ => pn + sec + 2 * m - (intOf v).toNat)
  case atStart => exact ⟨0, pn + sec, Nat.zero_le _, by omega, by go_num, P0⟩
  case round =>
    obtain ⟨k, q, hk, hq, rfl, hp⟩ := hrel
    have hq2 : q ≤ 400 := by omega
    have Hq := Lib.hid hq
    clear hq
    obtain ⟨oa, oc, hout, howns, hog⟩ := hp.out
    have hol := hout.lt
    have hbc := hp.arg.cell
    have hoc := hout.cell
    have Hb0 := Lib.hid hp.arg
    have Hbo := Lib.hid hout
    have Howns := Lib.hid howns
    have Hog := Lib.hid hog
    have Hres := Lib.hid hp.res
    have Hkeep := Lib.hid hp.keep
    clear hout howns hog P0
    by_cases hlt : k < m
    · obtain ⟨b, o, hla, hb, hrow⟩ := Hr.out.resolve_left (by have := Hln.out; omega)
      have hi0 : (0 : Int) ≤ (q : Int) := Int.natCast_nonneg _
      have hi1 : (q : Int) < (ln : Int) := by have := Hln.out; have := Hq.out; omega
      have hbr : b < wr.heap.size := by have := hp.keep.size; omega
      have Hc0 := Lib.hid ((Keeps.cell hp.keep hb (by simp)).trans (by simpa [i64s] using hrow q (by have := Hln.out; have := Hq.out; omega) 0 (by omega)) : wr.cell? ⟨b, o + q * 2, none⟩ = some (.int .i64 (f q 0)))
      have Hc1 := Lib.hid ((Keeps.cell hp.keep hb (by simp)).trans (hrow q (by have := Hln.out; have := Hq.out; omega) 1 (by omega)) : wr.cell? ⟨b, o + q * 2 + 1, none⟩ = some (.int .i64 (f q 1)))
      have o0 := Lib.hid (fun x (hx : x < b0 + 3) (e : some x = (Value.slice oa k oc).ownBlock) => by have := Hog.out x e.symm; omega : ∀ x, x < b0 + 3 → some x ≠ (Value.slice oa k oc).ownBlock)
      have ob := Lib.hid (fun e => by
        simp only [Option.mem_toList] at e
        have := Hog.out b e
        omega : b ∉ (Value.slice oa k oc).ownBlock.toList)
      clear hrow hp
      go_wp2_with fail
      refine AnyT.start 10 (fun w' => (∀ j, w'.cell? ⟨b0, j, none⟩ = (#[.int .i64 (pn : Int), .slice la ln lc, .int .i64 en] : Array Value)[j]?) ∧ (∀ j, w'.cell? ⟨b0 + 2, j, none⟩ = (#[.int .i64 0, .slice oa k oc, .int .i64 0] : Array Value)[j]?) ∧ w'.cell? ⟨b, o + q * 2, none⟩ = some (.int .i64 (f q 0)) ∧ w'.cell? ⟨b, o + q * 2 + 1, none⟩ = some (.int .i64 (f q 1))) (by kernel_rfl) ?_ (fun hHeld => ?_)
      · (try dsimp only); exact ⟨by (refine Blk.cell (t := 91) ?_; (repeat' with_reducible (first | exact Hb0.out | apply Blk.drew | apply Blk.alloc | exact hb01)); done), by (refine Blk.cell (t := 91) ?_; (repeat' with_reducible (first | exact Hbo.out | apply Blk.drew | apply Blk.alloc | exact hbo1)); done), by (first | exact hx0 | (refine (Keeps.cell (l := []) (w := wr) ?_ hbr (by simp)).trans Hc0.out; (repeat' with_reducible (first | exact Keeps.refl _ _ | exact hk1 | apply Keeps.drew | apply Keeps.alloc)); done)), by (first | exact hx1 | (refine (Keeps.cell (l := []) (w := wr) ?_ hbr (by simp)).trans Hc1.out; (repeat' with_reducible (first | exact Keeps.refl _ _ | exact hk1 | apply Keeps.drew | apply Keeps.alloc)); done))⟩
      refine AnyT.take (i := 0) (oi := { dst := some 18, op := Op.fieldAddr 91 (Operand.tmp 5) 1, type := 0, pos := "layout.go:71", after := #[], guard := none }) (v := ?_) rfl (by kernel_rfl) (fun _ _ _ h => h) hHeld (Or.inl ⟨by rfl, ?_⟩) ?_
      rotate_left
      · intro w hSw; obtain ⟨hS1, hS2, hS3, hS4⟩ := hSw; (try dsimp only at hS1); (try dsimp only at hS2); go_simp
        try with_reducible rfl
      try simp only [Act.put, List.setIfInBounds_toArray, List.set_cons_zero, List.set_cons_succ]
      refine AnyT.take (i := 1) (oi := { dst := some 19, op := Op.load 89 (Operand.tmp 18), type := 89, pos := "layout.go:71", after := #[{ on := 0, ground := Ground.data }], guard := none }) (v := ?_) rfl (by kernel_rfl) (fun _ _ _ h => h) hHeld (Or.inl ⟨by rfl, ?_⟩) ?_
      rotate_left
      · intro w hSw; obtain ⟨hS1, hS2, hS3, hS4⟩ := hSw; (try dsimp only at hS1); (try dsimp only at hS2); go_simp
        try with_reducible rfl
      try simp only [Act.put, List.setIfInBounds_toArray, List.set_cons_zero, List.set_cons_succ]
      refine AnyT.take (i := 2) (oi := { dst := some 20, op := Op.fieldAddr 91 (Operand.tmp 2) 1, type := 0, pos := "layout.go:71", after := #[], guard := none }) (v := ?_) rfl (by kernel_rfl) (fun _ _ _ h => h) hHeld (Or.inl ⟨by rfl, ?_⟩) ?_
      rotate_left
      · intro w hSw; obtain ⟨hS1, hS2, hS3, hS4⟩ := hSw; (try dsimp only at hS1); (try dsimp only at hS2); go_simp
        try with_reducible rfl
      try simp only [Act.put, List.setIfInBounds_toArray, List.set_cons_zero, List.set_cons_succ]
      refine AnyT.take (i := 3) (oi := { dst := some 21, op := Op.load 89 (Operand.tmp 20), type := 89, pos := "layout.go:71", after := #[{ on := 2, ground := Ground.data }], guard := none }) (v := ?_) rfl (by kernel_rfl) (fun _ _ _ h => h) hHeld (Or.inl ⟨by rfl, ?_⟩) ?_
      rotate_left
      · intro w hSw; obtain ⟨hS1, hS2, hS3, hS4⟩ := hSw; (try dsimp only at hS1); (try dsimp only at hS2); go_simp
        try with_reducible rfl
      try simp only [Act.put, List.setIfInBounds_toArray, List.set_cons_zero, List.set_cons_succ]
      refine AnyT.take (i := 4) (oi := { dst := some 22, op := Op.move (Operand.tmp 6), type := 3, pos := "layout.go:71", after := #[], guard := none }) (v := ?_) rfl (by kernel_rfl) (fun _ _ _ h => h) hHeld (Or.inl ⟨by rfl, ?_⟩) ?_
      rotate_left
      · intro w hSw; obtain ⟨hS1, hS2, hS3, hS4⟩ := hSw; (try dsimp only at hS1); (try dsimp only at hS2); go_simp
        try with_reducible rfl
      try simp only [Act.put, List.setIfInBounds_toArray, List.set_cons_zero, List.set_cons_succ]
      refine AnyT.take (i := 5) (oi := { dst := some 23, op := Op.indexAddr 89 (Operand.tmp 21) (Operand.tmp 22), type := 0, pos := "layout.go:71", after := #[{ on := 3, ground := Ground.data }, { on := 4, ground := Ground.data }], guard := none }) (v := ?_) rfl (by kernel_rfl) (fun _ _ _ h => h) hHeld (Or.inl ⟨by rfl, ?_⟩) ?_
      rotate_left
      · intro w hSw; obtain ⟨hS1, hS2, hS3, hS4⟩ := hSw; (try dsimp only at hS1); (try dsimp only at hS2); go_simp
        try with_reducible rfl
      try simp only [Act.put, List.setIfInBounds_toArray, List.set_cons_zero, List.set_cons_succ]
      refine AnyT.take (i := 6) (oi := { dst := some 24, op := Op.load 85 (Operand.tmp 23), type := 85, pos := "layout.go:71", after := #[{ on := 5, ground := Ground.data }], guard := none }) (v := ?_) rfl (by kernel_rfl) (fun _ _ _ h => h) hHeld (Or.inl ⟨by rfl, ?_⟩) ?_
      rotate_left
      · intro w hSw; obtain ⟨hS1, hS2, hS3, hS4⟩ := hSw; (try dsimp only at hS1); (try dsimp only at hS2); go_simp
        try with_reducible rfl
      try simp only [Act.put, List.setIfInBounds_toArray, List.set_cons_zero, List.set_cons_succ]
      refine AnyT.step (i := 7) (oi := { dst := some 25, op := Op.buildSlice 89 1 #[(0, Operand.tmp 24)], type := 89, pos := "layout.go:71", after := #[{ on := 6, ground := Ground.data }], guard := none }) rfl rfl (by kernel_rfl) (fun K hK => ?_)
      go_simp
      refine hK.out _ _ ?_ (fun hHeld => ?_)
      · (try dsimp only); exact ⟨by (refine Blk.cell (t := 91) ?_; (repeat' with_reducible (first | exact Hb0.out | apply Blk.drew | apply Blk.alloc | exact hb01)); done), by (refine Blk.cell (t := 91) ?_; (repeat' with_reducible (first | exact Hbo.out | apply Blk.drew | apply Blk.alloc | exact hbo1)); done), by (first | exact hx0 | (refine (Keeps.cell (l := []) (w := wr) ?_ hbr (by simp)).trans Hc0.out; (repeat' with_reducible (first | exact Keeps.refl _ _ | exact hk1 | apply Keeps.drew | apply Keeps.alloc)); done)), by (first | exact hx1 | (refine (Keeps.cell (l := []) (w := wr) ?_ hbr (by simp)).trans Hc1.out; (repeat' with_reducible (first | exact Keeps.refl _ _ | exact hk1 | apply Keeps.drew | apply Keeps.alloc)); done))⟩
      clear hK K
      try simp only [Act.put, List.setIfInBounds_toArray, List.set_cons_zero, List.set_cons_succ]
      refine AnyT.step (i := 8) (oi := { dst := some 26, op := Op.call { callee := Callee.builtin Builtin.append, args := #[Operand.tmp 19, Operand.tmp 25], argTypes := #[89, 89] }, type := 89, pos := "layout.go:71", after := #[{ on := 1, ground := Ground.data }, { on := 7, ground := Ground.data }], guard := none }) rfl rfl (by kernel_rfl) (fun K hK => ?_)
      (refine wp_append_lies _ _ _ _ (by rfl) 0 85 i0 _ 2 16 Try.underlying89 Hi.out hz0 hz1 hz2 rfl (by omega) (.slice oa k oc) k (rowsL (i64s fun i j => f (pn + sec + 2 * i) j) k) (by rfl) (by repeat' with_reducible (first | exact Howns.out | apply ownsRow_drew | apply World.ownsRow.alloc)) ⟨wr.heap.size, 0, none⟩ 1 1 [.int .i64 (f q 0), .int .i64 (f q 1)] (by rfl) (by rfl) (by exact news2 (t := 85) (by repeat' (first | with_reducible (apply Blk.drew) | (refine Blk.newAt ?_; first | rfl | (simp; done))))) (by simp [Value.oneCell']) (by omega) (by unfold maxLen; omega) (by omega) (by omega) _ rfl ?_; intro g cap w1 hown1 hgrow hat hlt1; have hb01 : Blk w1 b0 #[.int .i64 (pn : Int), .slice la ln lc, .int .i64 en] 91 := Blk.grown (by repeat' with_reducible (first | exact Hb0.out | apply Blk.drew | apply Blk.alloc)) hgrow (o0.out _ (by omega)); have hbo1 : Blk w1 (b0 + 2) #[.int .i64 0, .slice oa k oc, .int .i64 0] 91 := Blk.grown (by repeat' with_reducible (first | exact Hbo.out | apply Blk.drew | apply Blk.alloc)) hgrow (o0.out _ (by omega)); have hbf1 : ∀ j, w1.frozen? ⟨b0 + 2, j, none⟩ = false := hbo1.frozen; have hbz1 : Blk w1 (b0 + 1) #[.int .i64 0, .slice none 0 0, .int .i64 0] 91 := Blk.grown (by repeat' with_reducible (first | exact Hres.out | apply Blk.drew | apply Blk.alloc)) hgrow (o0.out _ (by omega)); have hkx : Keeps (Value.slice oa k oc).ownBlock.toList wr w1 := Keeps.grown (by (repeat' with_reducible (first | exact Keeps.refl _ _ | assumption | apply Keeps.drew | apply Keeps.drewN | apply Keeps.alloc))) hgrow (by intro k' e _; rw [e]; simp); have hx0 : w1.cell? ⟨b, o + q * 2, none⟩ = some (.int .i64 (f q 0)) := (Keeps.cell hkx hbr ob.out).trans Hc0.out; have hx1 : w1.cell? ⟨b, o + q * 2 + 1, none⟩ = some (.int .i64 (f q 1)) := (Keeps.cell hkx hbr ob.out).trans Hc1.out)
      refine hK.out _ _ ?_ (fun hHeld => ?_)
      · (try dsimp only); exact ⟨by (refine Blk.cell (t := 91) ?_; (repeat' with_reducible (first | exact Hb0.out | apply Blk.drew | apply Blk.alloc | exact hb01)); done), by (refine Blk.cell (t := 91) ?_; (repeat' with_reducible (first | exact Hbo.out | apply Blk.drew | apply Blk.alloc | exact hbo1)); done), by (first | exact hx0 | (refine (Keeps.cell (l := []) (w := wr) ?_ hbr (by simp)).trans Hc0.out; (repeat' with_reducible (first | exact Keeps.refl _ _ | exact hk1 | apply Keeps.drew | apply Keeps.alloc)); done)), by (first | exact hx1 | (refine (Keeps.cell (l := []) (w := wr) ?_ hbr (by simp)).trans Hc1.out; (repeat' with_reducible (first | exact Keeps.refl _ _ | exact hk1 | apply Keeps.drew | apply Keeps.alloc)); done))⟩
      clear hK K
      try simp only [Act.put, List.setIfInBounds_toArray, List.set_cons_zero, List.set_cons_succ]
      refine AnyT.take (i := 9) (oi := { dst := some 27, op := Op.fieldAddr 91 (Operand.tmp 5) 1, type := 0, pos := "layout.go:71", after := #[{ on := 0, ground := Ground.phase }, { on := 1, ground := Ground.phase }, { on := 2, ground := Ground.phase }, { on := 3, ground := Ground.phase }, { on := 4, ground := Ground.phase }, { on := 5, ground := Ground.phase }, { on := 6, ground := Ground.phase }, { on := 7, ground := Ground.phase }, { on := 8, ground := Ground.phase }], guard := none }) (v := ?_) rfl (by kernel_rfl) (fun _ _ _ h => h) hHeld (Or.inl ⟨by rfl, ?_⟩) ?_
      rotate_left
      · intro w hSw; obtain ⟨hS1, hS2, hS3, hS4⟩ := hSw; (try dsimp only at hS1); (try dsimp only at hS2); go_simp
        try with_reducible rfl
      try simp only [Act.put, List.setIfInBounds_toArray, List.set_cons_zero, List.set_cons_succ]
      refine AnyT.last (i := 10) (oi := { dst := none, op := Op.store 89 (Operand.tmp 27) (Operand.tmp 26), type := 0, pos := "layout.go:71", after := #[{ on := 9, ground := Ground.data }, { on := 8, ground := Ground.data }, { on := 8, ground := Ground.chain }, { on := 0, ground := Ground.phase }, { on := 1, ground := Ground.phase }, { on := 2, ground := Ground.phase }, { on := 3, ground := Ground.phase }, { on := 4, ground := Ground.phase }, { on := 5, ground := Ground.phase }, { on := 6, ground := Ground.phase }, { on := 7, ground := Ground.phase }, { on := 8, ground := Ground.phase }], guard := none }) rfl rfl rfl (by kernel_rfl) (by kernel_rfl) (fun K hK => ?_)
      go_simp
      refine hK.out _ _ ?_
      clear hK K
      try simp only [Act.put, List.setIfInBounds_toArray, List.set_cons_zero, List.set_cons_succ]
      have hgg : b0 + 2 < g := by
        rcases hat with hat | hat
        · exact Hog.out g hat
        · simp at hat; omega
      have hob2 : Blk (w1.setCell ⟨b0 + 2, 1, none⟩ (.slice (some ⟨g, 0, none⟩) (k + 1) cap)) (b0 + 2) #[.int .i64 0, .slice (some ⟨g, 0, none⟩) (k + 1) cap, .int .i64 0] 91 := hbo1.set 1 _
      have hown2 := ownsRow_other hown1 (a := ⟨b0 + 2, 1, none⟩) (by simp [Value.ownBlock]; omega) (.slice (some ⟨g, 0, none⟩) (k + 1) cap)
      have hp2 : OutAt w b0 (k + 1) (fun k j => f (pn + sec + 2 * k) j) #[.int .i64 (pn : Int), .slice la ln lc, .int .i64 en] (w1.setCell ⟨b0 + 2, 1, none⟩ (.slice (some ⟨g, 0, none⟩) (k + 1) cap)) := by
        refine ⟨(Hkeep.out.fresh hkx fun x hx => ?_).setCell (fun h => by dsimp only at h; omega) _, hb01.other (by dsimp only; omega) _, hbz1.other (by dsimp only; omega) _, some ⟨g, 0, none⟩, cap, hob2, ?_, ?_⟩
        · simp only [Option.mem_toList] at hx
          have := Hog.out x hx
          omega
        · have e : rowsL (i64s fun k j => f (pn + sec + 2 * k) j) (k + 1) = rowsL (i64s fun k j => f (pn + sec + 2 * k) j) k ++ [.int .i64 (f q 0), .int .i64 (f q 1)] := by
            simp only [rowsL, i64s, Hq.out]
          rw [e]
          exact hown2
        · intro x hx
          simp [Value.ownBlock] at hx
          omega
      have hbc2 := hp2.arg.cell
      have hlb2 := hp2.arg.lt
      generalize w1.setCell ⟨b0 + 2, 1, none⟩ (.slice (some ⟨g, 0, none⟩) (k + 1) cap) = w3 at *
      clear hb01 hbo1 hbf1 hbz1 hkx hx0 hx1 hown1 hown2 hgrow hat hob2 hHeld hbc hoc
      go_wp2_with fail
      rw [← hla]
      go_roundw
      case rel => exact ⟨k + 1, q + 2, by omega, by have := Hq.out; omega, by go_num, hp2⟩
      case measure => simp [intOf]; have := Hq.out; omega
    · have hi1 : ¬ (q : Int) < (ln : Int) := by have := Hln.out; have := Hq.out; omega
      obtain rfl : k = m := by omega
      have hrc := Hres.out.cell
      have hrf := Hres.out.frozen
      have hrl := Hres.out.lt
      go_wp2_with fail
      refine ret_plan (k := 4) rfl rfl rfl (((Hres.out.set 0 _).set 1 _).setTo (i := 2) rfl) ⟨oa, oc, rfl, ?_, ?_⟩
      · exact (((Hkeep.out).setCell (fun h => by dsimp only at h; omega) _).setCell (fun h => by dsimp only at h; omega) _).setCell (fun h => by dsimp only at h; omega) _
      · refine Rows.keep (l := [b0 + 1]) (rows_of_owns Howns.out) ((((Keeps.refl _ _).setCell (by simp) _).setCell (by simp) _).setCell (by simp) _) ?_
        intro bb hbb hm
        simp only [List.mem_singleton] at hm
        have h2 := Hog.out bb (by cases oa with | none => simp [blockOf] at hbb | some a => simpa [blockOf, Value.ownBlock] using hbb)
        omega

end Go.Proofs.Ytpkjffiajidfcaa

/- at, Source, Dest of package layout. -/
namespace Go.Proofs.Ytpkjffiajidfcaa
open Go.RowKit

set_option maxRecDepth 100000 in
set_option maxHeartbeats 1000000 in
theorem at_any (parts en fr i most : Int) (ln lc q : Nat) (la : Option Addr) (f : Nat → Nat → Int) (w : World) (hr : Rows w la ln 2 (i64s f)) (hq : fr + i = (q : Int)) (hi0 : 0 ≤ i) (hi1 : i < most) (hql : q < ln) (hln : ln ≤ 1000) :
    Calls Try.prog 36 #[.agg #[.int .i64 parts, .slice la ln lc, .int .i64 en], .int .i64 fr, .int .i64 i, .int .i64 most] w (Says (.agg #[.int .i64 (f q 0), .int .i64 (f q 1)]) w) := by
  obtain ⟨b, o, rfl, hb, hrow⟩ := hr.resolve_left (by omega)
  have c0 : w.cell? ⟨b, o + q * 2, none⟩ = some (.int .i64 (f q 0)) := by simpa [i64s] using hrow q hql 0 (by omega)
  have c1 : w.cell? ⟨b, o + q * 2 + 1, none⟩ = some (.int .i64 (f q 1)) := hrow q hql 1 (by omega)
  have hl1 : b < w.heap.size + 1 := by omega
  have hl2 : b < w.heap.size + 1 + 1 := by omega
  have hn0 : ¬ i < 0 := by omega
  have hn1 : ¬ most ≤ i := by omega
  have hw : wrap64 (fr + i) = (q : Int) := by rw [hq]; simp [wrap64]; omega
  have hq1 : (q : Int) < (ln : Int) := by omega
  have hq0 : (0 : Int) ≤ (q : Int) := Int.natCast_nonneg _
  clear hrow hr hq
  go_enter Try.func36, Try.ntmps36
  go_wp2_with fail
  exact ret_span (k := 8) rfl rfl rfl (Blk.newAt (by simp)) ⟨rfl, ((Keeps.refl _ _).alloc _).alloc _⟩


set_option maxRecDepth 100000 in
set_option maxHeartbeats 4000000 in
theorem Source_any (c : CfgV) (k : Nat) (hk : k < c.cn) (ha : spAcc c = true) (w : World) (h : CfgAt w c) :
    Calls Try.prog 28 #[.agg c.cells, .int .i64 (k : Int)] w (Says (.agg #[.int .i64 (spBefore c k), .int .i64 (spSz c k)]) w) := by
  have hA := accd ha
  have Hc := Lib.hid h
  have HA := Lib.hid hA
  have Hk := Lib.hid hk
  have hk1 : (0 : Int) ≤ (k : Int) := Int.natCast_nonneg _
  have hk2 : (k : Int) < (c.cn : Int) := by omega
  have hcn := hA.cn8
  have hpn := hA.pn6
  clear h hA hk
  simp only [CfgV.cells]
  go_enter Try.func28, Try.ntmps28
  go_wp2_with (first | (go_at_call 34; (with_reducible refine (of_any c _ (Hc.out.kept (by (repeat' with_reducible (first | exact Keeps.refl _ _ | assumption | apply Keeps.drew | apply Keeps.drewN | apply Keeps.alloc)))) ha).mono ?_); rintro e w1 ⟨pa, pc, rfl, hq1, hr1⟩; have B0 : Blk w1 (w.heap.size + 1) #[.int .i64 0, .int .i64 0] 85 := Blk.keep (l := []) (by (repeat' (first | with_reducible (first | assumption | apply Blk.drew | (refine Blk.newAt ?_; first | rfl | (simp; done)) | apply Blk.alloc)))) hq1 (by simp); have Hr1 := Lib.hid hr1; clear hr1) | (go_at_call 35; (with_reducible refine (chans_any c.pn c.cn 0 (c.pn + 2 * c.cn) pc pa _ 0 (spRow c) w1 (by simp) (by omega) rfl (by omega) Hr1.out).mono ?_); rintro e w2 ⟨oa, oc, rfl, hq2, hr2⟩; have B1 : Blk w2 (w.heap.size + 1) #[.int .i64 0, .int .i64 0] 85 := Blk.keep (l := []) B0 hq2 (by simp); have hl2 := B1.lt; have Hr2 := Lib.hid hr2; clear hr2) | (go_at_call 36; (with_reducible refine (at_any _ _ _ _ _ c.cn _ k oa (fun k j => spRow c (c.pn + 0 + 2 * k) j) _ ?_ ?_ ?_ ?_ ?_ ?_).mono ?_); (exact Rows.keep (l := []) Hr2.out (by (repeat' with_reducible (first | exact Keeps.refl _ _ | assumption | apply Keeps.drew | apply Keeps.drewN | apply Keeps.alloc))) (by simp)); (omega); (omega); (omega); (exact Hk.out); (omega); rintro e w3 ⟨rfl, hq3⟩; have B2 : Blk w3 (w.heap.size + 1) #[.int .i64 0, .int .i64 0] 85 := Blk.keep (l := []) (by (repeat' (first | with_reducible (first | assumption | apply Blk.drew | (refine Blk.newAt ?_; first | rfl | (simp; done)) | apply Blk.alloc)))) hq3 (by simp); have hl3 := B2.lt; have C3 := B2.cell; have F3 := B2.frozen) | (fail))
  rw [(spRow_src c k).1, (spRow_src c k).2]
  refine ret_span (k := 4) rfl rfl rfl ((B2.set 0 _).setTo (i := 1) rfl) ⟨rfl, ?_⟩
  exact ((Keeps.trans (Keeps.trans (Keeps.trans (by (repeat' with_reducible (first | exact Keeps.refl _ _ | assumption | apply Keeps.drew | apply Keeps.drewN | apply Keeps.alloc))) hq1) hq2) (Keeps.trans (by (repeat' with_reducible (first | exact Keeps.refl _ _ | assumption | apply Keeps.drew | apply Keeps.drewN | apply Keeps.alloc))) hq3)).setCell (fun h => by dsimp only at h; omega) _).setCell (fun h => by dsimp only at h; omega) _


set_option maxRecDepth 100000 in
set_option maxHeartbeats 4000000 in
theorem Dest_any (c : CfgV) (k : Nat) (hk : k < c.cn) (ha : spAcc c = true) (w : World) (h : CfgAt w c) :
    Calls Try.prog 29 #[.agg c.cells, .int .i64 (k : Int)] w (Says (.agg #[.int .i64 ((spBefore c k + spSz c k)), .int .i64 (1)]) w) := by
  have hA := accd ha
  have Hc := Lib.hid h
  have HA := Lib.hid hA
  have Hk := Lib.hid hk
  have hk1 : (0 : Int) ≤ (k : Int) := Int.natCast_nonneg _
  have hk2 : (k : Int) < (c.cn : Int) := by omega
  have hcn := hA.cn8
  have hpn := hA.pn6
  clear h hA hk
  simp only [CfgV.cells]
  go_enter Try.func29, Try.ntmps29
  go_wp2_with (first | (go_at_call 34; (with_reducible refine (of_any c _ (Hc.out.kept (by (repeat' with_reducible (first | exact Keeps.refl _ _ | assumption | apply Keeps.drew | apply Keeps.drewN | apply Keeps.alloc)))) ha).mono ?_); rintro e w1 ⟨pa, pc, rfl, hq1, hr1⟩; have B0 : Blk w1 (w.heap.size + 1) #[.int .i64 0, .int .i64 0] 85 := Blk.keep (l := []) (by (repeat' (first | with_reducible (first | assumption | apply Blk.drew | (refine Blk.newAt ?_; first | rfl | (simp; done)) | apply Blk.alloc)))) hq1 (by simp); have Hr1 := Lib.hid hr1; clear hr1) | (go_at_call 35; (with_reducible refine (chans_any c.pn c.cn 1 (c.pn + 2 * c.cn) pc pa _ 1 (spRow c) w1 (by simp) (by omega) rfl (by omega) Hr1.out).mono ?_); rintro e w2 ⟨oa, oc, rfl, hq2, hr2⟩; have B1 : Blk w2 (w.heap.size + 1) #[.int .i64 0, .int .i64 0] 85 := Blk.keep (l := []) B0 hq2 (by simp); have hl2 := B1.lt; have Hr2 := Lib.hid hr2; clear hr2) | (go_at_call 36; (with_reducible refine (at_any _ _ _ _ _ c.cn _ k oa (fun k j => spRow c (c.pn + 1 + 2 * k) j) _ ?_ ?_ ?_ ?_ ?_ ?_).mono ?_); (exact Rows.keep (l := []) Hr2.out (by (repeat' with_reducible (first | exact Keeps.refl _ _ | assumption | apply Keeps.drew | apply Keeps.drewN | apply Keeps.alloc))) (by simp)); (omega); (omega); (omega); (exact Hk.out); (omega); rintro e w3 ⟨rfl, hq3⟩; have B2 : Blk w3 (w.heap.size + 1) #[.int .i64 0, .int .i64 0] 85 := Blk.keep (l := []) (by (repeat' (first | with_reducible (first | assumption | apply Blk.drew | (refine Blk.newAt ?_; first | rfl | (simp; done)) | apply Blk.alloc)))) hq3 (by simp); have hl3 := B2.lt; have C3 := B2.cell; have F3 := B2.frozen) | (fail))
  rw [show c.pn + 1 + 2 * k = c.pn + 2 * k + 1 by omega, (spRow_dst c k).1, (spRow_dst c k).2]
  refine ret_span (k := 4) rfl rfl rfl ((B2.set 0 _).setTo (i := 1) rfl) ⟨rfl, ?_⟩
  exact ((Keeps.trans (Keeps.trans (Keeps.trans (by (repeat' with_reducible (first | exact Keeps.refl _ _ | assumption | apply Keeps.drew | apply Keeps.drewN | apply Keeps.alloc))) hq1) hq2) (Keeps.trans (by (repeat' with_reducible (first | exact Keeps.refl _ _ | assumption | apply Keeps.drew | apply Keeps.drewN | apply Keeps.alloc))) hq3)).setCell (fun h => by dsimp only at h; omega) _).setCell (fun h => by dsimp only at h; omega) _

end Go.Proofs.Ytpkjffiajidfcaa

/- mem.New, slices.Clone, four.of, NewWriter, NewReader. -/
namespace Go.Proofs.Ytpkjffiajidfcaa
open Go.RowKit

theorem make_u32 (n : Nat) (hn : n ≤ 65536) (W : World) :
    (Instr.makeSlice 46 (.int .i64 (n : Int)) (.int .i64 (n : Int))).run Try.prog W = .ok (.slice (some ⟨W.heap.size, 0, none⟩) n n) (W.alloc (.cells (u32s (List.replicate n 0)) 41)) := by
  obtain ⟨i0, hi, hz0, hz1, hz2⟩ := info_parts info_u32
  have hr := run_make (P := Try.prog) W 46 41 i0 _ Try.underlying46 hi hz0 .i64 .i64 (n : Int) (n : Int) (by omega) (Int.le_refl _) (by rw [hz2]; omega) (by omega)
  simp only [Int.toNat_natCast] at hr
  rw [hr, hz1]
  have e : madeCells (Value.int .u32 0).cells (n * 1) = u32s (List.replicate n 0) := by
    apply Array.ext
    · simp [size_madeCells, u32s]
    · intro i h1 h2
      simp [madeCells, u32s, Value.cells, Nat.mod_one]
  rw [e]

def NewPost (n : Nat) (w : World) (e : Ending) (w' : World) : Prop :=
  ∃ bm bw, e = .returned (.tuple #[.pointer (some ⟨bm, 0, none⟩), .int .i64 0]) ∧ Keeps [] w w' ∧ w.heap.size ≤ bm ∧ w.heap.size ≤ bw ∧ MemAt w' bm bw (List.replicate n 0)

set_option maxRecDepth 100000 in
set_option maxHeartbeats 1000000 in
theorem New_any (n : Nat) (w : World) (hn : n ≤ 65536) :
    Calls Try.prog 9 #[.int .i64 (n : Int)] w (NewPost n w) := by
  have h0 : ¬ (n : Int) < 0 := by omega
  have h1 : ¬ (65536 : Int) < (n : Int) := by omega
  have hmk := make_u32 n hn
  go_enter Try.func9, Try.ntmps9
  go_wp2_with fail
  refine bodyPost_ret (v := .tuple #[.pointer (some ⟨w.heap.size + 1, 0, none⟩), .int .i64 0]) (by simp [results, Try.results9, go_sem]) rfl ?_
  refine ⟨w.heap.size + 1, w.heap.size, rfl, by (repeat' with_reducible (first | exact Keeps.refl _ _ | assumption | apply Keeps.drew | apply Keeps.drewN | apply Keeps.alloc)), by omega, Nat.le_refl _, ⟨?_, (Blk.new _ _ _).alloc _, by omega, by simpa using hn⟩⟩
  rw [List.length_replicate]
  exact Blk.newAt (by simp)


theorem ownsRow_none (w : World) : (w.alloc (.cells #[] 41)).ownsRow 0 41 1 (.slice (some ⟨w.heap.size, 0, none⟩) 0 0) 0 [] :=
  ⟨rfl, .inr ⟨w.heap.size, 0, #[], rfl, Nat.zero_le _, Blk.new w #[] _, Nat.le_refl _, Nat.zero_le _, rfl, rfl⟩⟩

theorem Keeps.addr {w w' : World} (h : Keeps [] w w') {b o j : Nat} (hb : b < w.heap.size) : w'.cell? ((⟨b, o, none⟩ : Addr).add j) = w.cell? ((⟨b, o, none⟩ : Addr).add j) := by
  have e : (⟨b, o, none⟩ : Addr).add j = ⟨b, o + j, none⟩ := by simp [Addr.add]
  rw [e]
  exact h.cell hb (by simp)

def ClonePost (n : Nat) (xs : List Int) (w : World) (e : Ending) (w' : World) : Prop :=
  ∃ g cap dv, e = .returned (.slice (some ⟨g, 0, none⟩) n cap) ∧ Keeps [] w w' ∧ w.heap.size ≤ g ∧ Blk w' g dv 41 ∧ ∀ i, i < n → dv[i]? = some (.int .u32 (rd xs i))

set_option maxRecDepth 100000 in
set_option maxHeartbeats 1000000 in
theorem Clone_any (n cp ab ao : Nat) (xs : List Int) (w : World) (hx : ∀ j u, (xs.map (Value.int .u32))[j]? = some u → w.cell? ((⟨ab, ao, none⟩ : Addr).add j) = some u) (hl : xs.length = n) (hn0 : 0 < n) (hn : n ≤ 100) (hab : ab < w.heap.size) :
    Calls Try.prog 23 #[.slice (some ⟨ab, ao, none⟩) n cp] w (ClonePost n xs w) := by
  have Hx := Lib.hid hx
  obtain ⟨i0, hi, hz0, hz1, hz2⟩ := info_parts info_u32
  have Hi := Lib.hid hi
  have hq : ∀ W : World, (binOp .eql 46 (.slice (some ⟨ab, ao, none⟩) n cp) (.slice none 0 0)).run Try.prog W = .ok (.bool false) W := fun _ => by kernel_rfl
  clear hx hi
  go_enter Try.func23, Try.ntmps23
  go_wp2_with (first | (at_builtin; refine wpList_append_lies _ (by rfl) _ _ _ (by rfl) 0 41 i0 _ 1 4 Try.underlying46 Hi.out hz0 hz1 hz2 rfl (by omega) (.slice (some ⟨w.heap.size, 0, none⟩) 0 0) 0 [] (by rfl) (ownsRow_none w) ⟨ab, ao, none⟩ n cp (xs.map (Value.int .u32)) (by rfl) (by simp [hl]) (fun j u hj => ?hnews) (by intro u hu; simp at hu; obtain ⟨x, _, rfl⟩ := hu; rfl) hn0 (by unfold maxLen; omega) (by omega) (by omega) _ rfl ?hgo))
  case hnews =>
    exact (Keeps.addr ((Keeps.refl _ w).alloc _) hab).trans (Hx.out j u hj)
  case hgo =>
    intro g cap w1 hown1 hgrow hat hlt1
    go_wp2
    go_ret
    rcases hown1.2 with ⟨hv, _⟩ | ⟨g', cap', cur, hv, _, hg, _, hle, hsz, htk⟩
    · cases hv
    · cases hv
      refine ⟨g, cap, cur, rfl, Keeps.grown (by (repeat' with_reducible (first | exact Keeps.refl _ _ | assumption | apply Keeps.drew | apply Keeps.drewN | apply Keeps.alloc))) hgrow (fun k hk hk2 => ?_), ?_, hg, fun i hi => ?_⟩
      · simp [Value.ownBlock] at hk; omega
      · rcases hat with hat | hat
        · simp [Value.ownBlock] at hat; omega
        · omega
      · have h2 : (cur.toList.take (n * 1))[i]? = some (.int .u32 (rd xs i)) := by rw [htk]; simp [rd, hi, hl]
        rw [List.getElem?_take, if_pos (by omega)] at h2
        simpa using h2


theorem ret_places {fn : Func} {R : Ending → World → Prop} {a : Act} {W : World} {rb k : Nat} {x y z u : Value}
    (hf : fn.results = #[.cell k 71]) (h6 : a.tmps.getD k undef = .pointer (some ⟨rb, 0, none⟩)) (hd : a.defers = [])
    (hb : Blk W rb #[x, y, z, u] 71) (hR : R (.returned (.agg #[x, y, z, u])) W) : bodyPost Try.prog fn R .ret a W := by
  have hc : ∀ j, W.cell? ⟨rb, j, none⟩ = (#[x, y, z, u] : Array Value)[j]? := hb.cell
  rw [Array.getD_eq_getD_getElem?] at h6
  refine bodyPost_ret ?_ hd hR
  simp [results, hf, h6, go_sem, hc]

@[reducible, go_sem] def PlacesOf (c : CfgV) (k : Nat) : Array Value := #[.int .i64 (spBefore c k), .int .i64 (spBefore c k + spSz c k), .int .i64 (c.chan k 3), .int .i64 (c.chan k 5)]

set_option maxRecDepth 100000 in
set_option maxHeartbeats 4000000 in
theorem fourOf_any (c : CfgV) (k : Nat) (hk : k < c.cn) (ha : spAcc c = true) (w : World) (h : CfgAt w c) :
    Calls Try.prog 22 #[.agg c.cells, .int .i64 (k : Int)] w (Says (.agg (PlacesOf c k)) w) := by
  have Hc := Lib.hid h
  have hki0 : (0 : Int) ≤ (k : Int) := Int.natCast_nonneg _
  have hki : (k : Int) < (c.cn : Int) := by omega
  obtain ⟨b, o, hca, hb, hrow⟩ := h.chans.resolve_left (by omega)
  have Hca := Lib.hid hca
  clear hca
  have c3 : w.cell? ⟨b, o + k * 7 + 3, none⟩ = some (.int .i64 (c.chan k 3)) := by simpa [chs] using hrow k hk 3 (by omega)
  have c5 : w.cell? ⟨b, o + k * 7 + 5, none⟩ = some (.int .i64 (c.chan k 5)) := by simpa [chs] using hrow k hk 5 (by omega)
  have hb1 : b < w.heap.size + 1 := by omega
  have Hk := Lib.hid hk
  clear h hrow hk
  have hfd : ∀ (x y : Value) (W : World), (Instr.field 85 (.agg #[x, y]) 0).run Try.prog W = .ok x W := fun _ _ _ => by kernel_rfl
  simp only [CfgV.cells]
  go_enter Try.func22, Try.ntmps22
  go_wp2_with fail
  have B0 : Blk ((w.alloc (.cells c.cells 31)).alloc (.cells #[.int .i64 0, .int .i64 0, .int .i64 0, .int .i64 0] 71)) w.heap.size c.cells 31 := (Blk.new _ _ _).alloc _
  have B1 : Blk ((w.alloc (.cells c.cells 31)).alloc (.cells #[.int .i64 0, .int .i64 0, .int .i64 0, .int .i64 0] 71)) (w.heap.size + 1) #[.int .i64 0, .int .i64 0, .int .i64 0, .int .i64 0] 71 := Blk.newAt (by simp)
  have K0 : Keeps [] w ((w.alloc (.cells c.cells 31)).alloc (.cells #[.int .i64 0, .int .i64 0, .int .i64 0, .int .i64 0] 71)) := by (repeat' with_reducible (first | exact Keeps.refl _ _ | assumption | apply Keeps.drew | apply Keeps.drewN | apply Keeps.alloc))
  simp only [CfgV.cells] at B0 B1 K0
  generalize (w.alloc (.cells _ 31)).alloc (.cells #[.int .i64 0, .int .i64 0, .int .i64 0, .int .i64 0] 71) = w1 at *
  have d3 := (Keeps.cell K0 hb (by simp)).trans c3
  have d5 := (Keeps.cell K0 hb (by simp)).trans c5
  have d0 := B0.cell
  have HC := Lib.hid (Hc.out.kept K0)
  have HK0 := Lib.hid K0
  have HB1 := Lib.hid B1
  have hlt1 := B1.lt
  clear c3 c5 B0 B1 K0
  have hca := Hca.out
  go_region_held3 (fun w' => ∀ b j, b < w.heap.size + 1 → w'.cell? ⟨b, j, none⟩ = w1.cell? ⟨b, j, none⟩) (first | (intro b j hb; exact Keeps.cell (l := [w.heap.size + 1]) (by (repeat' with_reducible (first | exact Keeps.refl _ _ | apply Keeps.drew | apply Keeps.drewN | apply Keeps.alloc | refine Keeps.trans ?_ hm1 | refine Keeps.trans ?_ hm2 | refine Keeps.setCell ?_ (by simp) _))) (by omega) (by simp; omega))) (first | (go_at_call 28; rw [← hca]; (with_reducible refine (Source_any c k Hk.out ha _ (HC.out.kept (by (repeat' with_reducible (first | exact Keeps.refl _ _ | apply Keeps.drew | apply Keeps.drewN | apply Keeps.alloc | refine Keeps.trans ?_ hk1 | refine Keeps.trans ?_ hk2))))).mono ?_); rintro e w2 ⟨rfl, hk1⟩; have hm1 := Keeps.mono (m := [w.heap.size + 1]) hk1 (by simp); have Bk1 : Blk w2 (w.heap.size + 1) #[.int .i64 0, .int .i64 0, .int .i64 0, .int .i64 0] 71 := Blk.keep (l := []) (by (repeat' with_reducible (first | exact HB1.out | exact Bk1 | exact Bk2 | apply Blk.drew | apply Blk.alloc))) hk1 (by simp); have Ck1 := Bk1.cell; have Fk1 := Bk1.frozen; have Lk1 := Bk1.lt) | (go_at_call 29; rw [← hca]; (with_reducible refine (Dest_any c k Hk.out ha _ (HC.out.kept (by (repeat' with_reducible (first | exact Keeps.refl _ _ | apply Keeps.drew | apply Keeps.drewN | apply Keeps.alloc | refine Keeps.trans ?_ hk1 | refine Keeps.trans ?_ hk2))))).mono ?_); rintro e w3 ⟨rfl, hk2⟩; have hm2 := Keeps.mono (m := [w.heap.size + 1]) hk2 (by simp); have Bk2 : Blk w3 (w.heap.size + 1) #[.int .i64 0, .int .i64 0, .int .i64 0, .int .i64 0] 71 := Blk.keep (l := []) (by (repeat' with_reducible (first | exact HB1.out | exact Bk1 | exact Bk2 | apply Blk.drew | apply Blk.alloc))) hk2 (by simp); have Ck2 := Bk2.cell; have Fk2 := Bk2.frozen; have Lk2 := Bk2.lt) | (fail))
  go_wp2
  refine ret_places (k := 4) rfl rfl rfl ((((Bk2.set 0 _).set 1 _).set 2 _).setTo (i := 3) rfl) ⟨rfl, ?_⟩
  refine Keeps.fresh (l := [w.heap.size + 1]) HK0.out ?_ (by simp)
  (repeat' with_reducible (first | exact Keeps.refl _ _ | apply Keeps.drew | apply Keeps.drewN | apply Keeps.alloc | refine Keeps.trans ?_ hm1 | refine Keeps.trans ?_ hm2 | refine Keeps.setCell ?_ (by simp) _))


def WriterPost (c : CfgV) (k n : Nat) (xs : List Int) (w : World) (e : Ending) (w' : World) : Prop :=
  ∃ b bd cap dv, e = .returned (.pointer (some ⟨b, 0, none⟩)) ∧ Keeps [] w w' ∧ w.heap.size ≤ b ∧ w.heap.size ≤ bd ∧ b ≠ bd ∧
    Blk w' b (wrCells (spBefore c k) (spBefore c k + spSz c k) (c.chan k 3) (c.chan k 5) bd n cap 0 0 0 false (nextF 24 b)) 77 ∧ Blk w' bd dv 41 ∧ ∀ i, i < n → dv[i]? = some (.int .u32 (rd xs i))

set_option maxRecDepth 100000 in
set_option maxHeartbeats 4000000 in
theorem NewWriter_any (c : CfgV) (k n cp ab ao : Nat) (xs : List Int) (hk : k < c.cn) (ha : spAcc c = true) (w : World) (h : CfgAt w c) (hx : ∀ j u, (xs.map (Value.int .u32))[j]? = some u → w.cell? ((⟨ab, ao, none⟩ : Addr).add j) = some u) (hl : xs.length = n) (hn0 : 0 < n) (hn : n ≤ 100) (hab : ab < w.heap.size) :
    Calls Try.prog 13 #[.agg c.cells, .int .i64 (k : Int), .slice (some ⟨ab, ao, none⟩) n cp] w (WriterPost c k n xs w) := by
  have Hc := Lib.hid h
  have Hx := Lib.hid hx
  have hmf : ∀ (fn : Fn) (first cap : Array Value) (w : World), (Instr.makeFunc fn first cap).run Try.prog w = .ok (.func fn first cap) w := fun _ _ _ _ => rfl
  clear h hx
  simp only [CfgV.cells]
  go_enter Try.func13, Try.ntmps13
  go_wp2_with (first | (go_at_call 22; (with_reducible refine (fourOf_any c k hk ha _ (Hc.out.kept (by (repeat' with_reducible (first | exact Keeps.refl _ _ | assumption | apply Keeps.drew | apply Keeps.drewN | apply Keeps.alloc))))).mono ?_); rintro e w1 ⟨rfl, hk1⟩; have hs1 := hk1.size; have hkw := Keeps.trans (a := w) (by (repeat' with_reducible (first | exact Keeps.refl _ _ | assumption | apply Keeps.drew | apply Keeps.drewN | apply Keeps.alloc))) hk1) | (go_at_call 23; (with_reducible refine (Clone_any n cp ab ao xs _ ?_ hl hn0 hn ?_).mono ?_); (intro j u hj; exact (Keeps.addr hkw hab).trans (Hx.out j u hj)); (exact Nat.lt_of_lt_of_le hab hkw.size); rintro e w2 ⟨bd, cap, dv, rfl, hk2, hbd, hdv, hdx⟩) | (fail))
  go_ret
  refine ⟨w2.heap.size, bd, cap, dv, rfl, ?_, ?_, ?_, ?_, Blk.newAt rfl, hdv.alloc _, hdx⟩
  · exact (Keeps.trans hkw hk2).alloc _
  · have := (Keeps.trans hkw hk2).size; omega
  · have := hkw.size; omega
  · have := hdv.lt; omega

def ReaderPost (c : CfgV) (k : Nat) (w : World) (e : Ending) (w' : World) : Prop :=
  ∃ b, e = .returned (.pointer (some ⟨b, 0, none⟩)) ∧ Keeps [] w w' ∧ w.heap.size ≤ b ∧
    Blk w' b (rdCells (spBefore c k) (spBefore c k + spSz c k) (c.chan k 3) (c.chan k 5) 0 0 0 0 (.slice none 0 0) (nextF 25 b)) 80

set_option maxRecDepth 100000 in
set_option maxHeartbeats 4000000 in
theorem NewReader_any (c : CfgV) (k : Nat) (hk : k < c.cn) (ha : spAcc c = true) (w : World) (h : CfgAt w c) :
    Calls Try.prog 15 #[.agg c.cells, .int .i64 (k : Int)] w (ReaderPost c k w) := by
  have Hc := Lib.hid h
  have hmf : ∀ (fn : Fn) (first cap : Array Value) (w : World), (Instr.makeFunc fn first cap).run Try.prog w = .ok (.func fn first cap) w := fun _ _ _ _ => rfl
  clear h
  simp only [CfgV.cells]
  go_enter Try.func15, Try.ntmps15
  go_wp2_with (first | (go_at_call 22; (with_reducible refine (fourOf_any c k hk ha _ (Hc.out.kept (by (repeat' with_reducible (first | exact Keeps.refl _ _ | assumption | apply Keeps.drew | apply Keeps.drewN | apply Keeps.alloc))))).mono ?_); rintro e w1 ⟨rfl, hk1⟩; have hs1 := hk1.size; have hkw := Keeps.trans (a := w) (by (repeat' with_reducible (first | exact Keeps.refl _ _ | assumption | apply Keeps.drew | apply Keeps.drewN | apply Keeps.alloc))) hk1) | (fail))
  go_ret
  exact ⟨w1.heap.size, rfl, hkw.alloc _, hkw.size, Blk.newAt rfl⟩

end Go.Proofs.Ytpkjffiajidfcaa
