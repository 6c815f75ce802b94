/- two, of the laws: a configuration of two partitions and one sampling channel. -/
import Derived.Test.YtpkjffiajidfcaaG3
import Derived.Test.YtpkjffiajidfcaaG4
import Derived.Test.YtpkjffiajidfcaaG5
import Derived.Test.YtpkjffiajidfcaaG6
import Derived.Test.YtpkjffiajidfcaaG7
import Derived.Test.YtpkjffiajidfcaaG8
import Derived.Test.YtpkjffiajidfcaaG1
set_option linter.all false
set_option linter.unusedVariables false
set_option linter.unusedSimpArgs false

namespace Go.Proofs.Ytpkjffiajidfcaa
open Go.RowKit

@[reducible] def twoC (pb cb f0 f1 : Nat) (wds per : Int) : CfgV :=
  { pa := some ⟨pb, 0, none⟩, pn := 2, pc := 2, ca := some ⟨cb, 0, none⟩, cn := 1, cc := 1, l0 := 1, w0a := some ⟨f0, 0, none⟩, w0n := 1, w0c := 1, l1 := 1, w1a := some ⟨f1, 0, none⟩, w1n := 1, w1c := 1,
     part := fun i j => if i = 0 then (if j = 1 then 1 else 0) else (if j = 0 then 1 else 0),
     chan := fun _ j => if j = 0 then 1 else if j = 2 then 1 else if j = 3 then wds else if j = 5 then per else 0,
     win0 := fun _ j => if j = 2 then 1 else 0,
     win1 := fun _ j => if j = 0 then 1 else if j = 2 then 1 else 0 }

theorem two_acc (pb cb f0 f1 : Nat) (wds per : Int) (h1 : 1 ≤ wds) (h16 : wds ≤ 16) (p0 : 0 ≤ per) (p1 : per ≤ 1048576) : spAcc (twoC pb cb f0 f1 wds per) = true := by
  unfold spAcc
  rw [List.isEmpty_iff]
  unfold defs
  rw [List.map_eq_nil_iff, List.filter_eq_nil_iff]
  intro i hi
  simp only [List.mem_range] at hi
  rw [Bool.not_eq_true]
  match i, hi with
  | 0, _ => rfl
  | 1, _ => rfl
  | 2, _ => rfl
  | 3, _ => rfl
  | 4, _ => rfl
  | 5, _ => rfl
  | 6, _ => rfl
  | 7, _ => simp [spRule, anyOf, inR] <;> omega
  | 8, _ => rfl
  | 9, _ => simp [spRule, anyOf, spFresh, inR] <;> omega
  | 10, _ => rfl
  | 11, _ => rfl
  | 12, _ => rfl
  | 13, _ => rfl
  | 14, _ => rfl
  | 15, _ => rfl
  | 16, _ => rfl
  | i + 17, h => exact absurd h (by omega)

theorem I64.of {x : Int} (h : -4294967296 ≤ x) (h' : x ≤ 4294967296) : I64 x := ⟨by omega, by omega⟩

theorem two_cfg {w : World} {pb cb f0 f1 : Nat} {wds per : Int} (h1 : 1 ≤ wds) (h16 : wds ≤ 16) (p0 : 0 ≤ per) (p1 : per ≤ 1048576) {t0 t1 t2 t3 : TypeId}
    (hp : Blk w pb #[.int .i64 0, .int .i64 1, .int .i64 1, .int .i64 0] t0) (hc : Blk w cb #[.int .i64 1, .int .i64 0, .int .i64 1, .int .i64 wds, .int .i64 0, .int .i64 per, .int .u32 0] t1)
    (hf0 : Blk w f0 #[.int .i64 0, .int .i64 0, .int .i64 1] t2) (hf1 : Blk w f1 #[.int .i64 1, .int .i64 0, .int .i64 1] t3) : CfgAt w (twoC pb cb f0 f1 wds per) := by
  refine ⟨.inr ⟨pb, 0, rfl, hp.lt, ?_⟩, .inr ⟨cb, 0, rfl, hc.lt, ?_⟩, .inr ⟨f0, 0, rfl, hf0.lt, ?_⟩, .inr ⟨f1, 0, rfl, hf1.lt, ?_⟩, by simp, by simp, by simp, by simp, ⟨by simp, by simp⟩, ⟨by simp, by simp⟩, ?_, ?_, ?_, ?_, ?_⟩
  · intro i hi j hj
    match i, hi, j, hj with
    | 0, _, 0, _ => exact hp.cell 0
    | 0, _, 1, _ => exact hp.cell 1
    | 1, _, 0, _ => exact hp.cell 2
    | 1, _, 1, _ => exact hp.cell 3
    | i + 2, h, _, _ => exact absurd h (by show ¬ (i + 2 < 2); omega)
    | _, _, j + 2, h => exact absurd h (by omega)
  · intro i hi j hj
    match i, hi, j, hj with
    | 0, _, 0, _ => exact hc.cell 0
    | 0, _, 1, _ => exact hc.cell 1
    | 0, _, 2, _ => exact hc.cell 2
    | 0, _, 3, _ => exact hc.cell 3
    | 0, _, 4, _ => exact hc.cell 4
    | 0, _, 5, _ => exact hc.cell 5
    | 0, _, 6, _ => exact hc.cell 6
    | i + 1, h, _, _ => exact absurd h (by show ¬ (i + 1 < 1); omega)
    | _, _, j + 7, h => exact absurd h (by omega)
  · intro i hi j hj
    match i, hi, j, hj with
    | 0, _, 0, _ => exact hf0.cell 0
    | 0, _, 1, _ => exact hf0.cell 1
    | 0, _, 2, _ => exact hf0.cell 2
    | i + 1, h, _, _ => exact absurd h (by show ¬ (i + 1 < 1); omega)
    | _, _, j + 3, h => exact absurd h (by omega)
  · intro i hi j hj
    match i, hi, j, hj with
    | 0, _, 0, _ => exact hf1.cell 0
    | 0, _, 1, _ => exact hf1.cell 1
    | 0, _, 2, _ => exact hf1.cell 2
    | i + 1, h, _, _ => exact absurd h (by show ¬ (i + 1 < 1); omega)
    | _, _, j + 3, h => exact absurd h (by omega)
  · intro i j; refine I64.of ?_ ?_ <;> (dsimp only; repeat' split) <;> omega
  · intro i j; refine I64.of ?_ ?_ <;> (dsimp only; repeat' split) <;> omega
  · intro i; exact ⟨by simp, by simp⟩
  · intro i j; refine I64.of ?_ ?_ <;> (dsimp only; repeat' split) <;> omega
  · intro i j; refine I64.of ?_ ?_ <;> (dsimp only; repeat' split) <;> omega

def TwoPost (wds per : Int) (w : World) (e : Ending) (w' : World) : Prop :=
  ∃ pb cb f0 f1, e = .returned (.agg (twoC pb cb f0 f1 wds per).cells) ∧ Keeps [] w w' ∧ CfgAt w' (twoC pb cb f0 f1 wds per) ∧ ∀ b, b ∈ (twoC pb cb f0 f1 wds per).blocks → w.heap.size ≤ b

theorem ret_cfg {fn : Func} {R : Ending → World → Prop} {a : Act} {W : World} {rb k : Nat} {x y z u v s : Value}
    (hf : fn.results = #[.cell k 31]) (h6 : a.tmps.getD k undef = .pointer (some ⟨rb, 0, none⟩)) (hd : a.defers = [])
    (hb : Blk W rb #[x, y, z, u, v, s] 31) (hR : R (.returned (.agg #[x, y, z, u, v, s])) W) : bodyPost Try.prog fn R .ret a W := by
  have hc : ∀ j, W.cell? ⟨rb, j, none⟩ = (#[x, y, z, u, v, s] : Array Value)[j]? := hb.cell
  rw [Array.getD_eq_getD_getElem?] at h6
  refine bodyPost_ret ?_ hd hR
  simp [results, hf, h6, go_sem, hc]

set_option maxRecDepth 100000 in
set_option maxHeartbeats 4000000 in
theorem two_any (wds per : Int) (w : World) (h1 : 1 ≤ wds) (h16 : wds ≤ 16) (p0 : 0 ≤ per) (p1 : per ≤ 1048576) :
    Calls Try.prog 8 #[.int .i64 wds, .int .i64 per] w (TwoPost wds per w) := by
  go_enter Try.func8, Try.ntmps8
  go_wp2_with fail
  refine ret_cfg (k := 4) rfl rfl rfl (x := _) (y := _) (z := _) (u := _) (v := _) (s := _) ?hb ⟨w.heap.size + 1, w.heap.size + 1 + 1, w.heap.size + 1 + 1 + 1 + 1, w.heap.size + 1 + 1 + 1 + 1 + 1, rfl, ?hk, two_cfg (t0 := 63) (t1 := 60) (t2 := 65) (t3 := 65) h1 h16 p0 p1 ?_ ?_ ?_ ?_, ?hbl⟩
  case hb => (repeat' (first | with_reducible (first | apply Blk.drew | (refine Blk.newAt ?_; simp; done) | (refine' Blk.other ?_ (by simp; omega) _) | apply Blk.alloc)))
  case hk => (repeat' with_reducible (first | exact Keeps.refl _ _ | assumption | apply Keeps.drew | apply Keeps.drewN | apply Keeps.alloc))
  case hbl =>
    intro b hb
    simp [CfgV.blocks, blockOf] at hb
    omega
  all_goals (repeat' (first | with_reducible (first | apply Blk.drew | (refine Blk.newAt ?_; simp; done) | (refine' Blk.other ?_ (by simp; omega) _) | apply Blk.alloc)))

end Go.Proofs.Ytpkjffiajidfcaa

/- Holds of package portholeref07. -/
namespace Go.Proofs.Ytpkjffiajidfcaa
open Go.RowKit


set_option maxRecDepth 100000 in
set_option maxHeartbeats 4000000 in
theorem refHolds_1 (c : CfgV) (w : World) (h : CfgAt w c) :
    Calls Try.prog 33 #[.agg c.cells, .int .i64 1] w (Says (.bool (spRule c 0)) w) := by
  have hpn := h.pn
  have hcn := h.cn
  have Hc := Lib.hid h
  clear h
  have e : spRule c 0 = !inR c.pn 1 6 := rfl
  rw [e]
  clear e
  by_cases h1 : (c.pn : Int) < 1
  · have H1 := Lib.hid h1
    simp only [CfgV.cells]
    go_enter Try.func33, Try.ntmps33
    go_wp2_with fail
    go_ret
    exact ⟨ret_bool (by have := H1.out; simp [inR] <;> omega), by (repeat' with_reducible (first | exact Keeps.refl _ _ | assumption | apply Keeps.drew | apply Keeps.drewN | apply Keeps.alloc))⟩
  · by_cases h2 : 6 < (c.pn : Int)
    · have H1 := Lib.hid h1
      have H2 := Lib.hid h2
      simp only [CfgV.cells]
      go_enter Try.func33, Try.ntmps33
      go_wp2_with fail
      go_ret
      exact ⟨ret_bool (by have := H1.out; have := H2.out; simp [inR] <;> omega), by (repeat' with_reducible (first | exact Keeps.refl _ _ | assumption | apply Keeps.drew | apply Keeps.drewN | apply Keeps.alloc))⟩
    · have H1 := Lib.hid h1
      have H2 := Lib.hid h2
      simp only [CfgV.cells]
      go_enter Try.func33, Try.ntmps33
      go_wp2_with fail
      go_ret
      exact ⟨ret_bool (by have := H1.out; have := H2.out; simp [inR] <;> omega), by (repeat' with_reducible (first | exact Keeps.refl _ _ | assumption | apply Keeps.drew | apply Keeps.drewN | apply Keeps.alloc))⟩


set_option maxRecDepth 100000 in
set_option maxHeartbeats 4000000 in
theorem refHolds_4 (c : CfgV) (w : World) (h : CfgAt w c) :
    Calls Try.prog 33 #[.agg c.cells, .int .i64 4] w (Says (.bool (spRule c 3)) w) := by
  have hpn := h.pn
  have hcn := h.cn
  have Hc := Lib.hid h
  clear h
  have e : spRule c 3 = decide (8 < (c.cn : Int)) := rfl
  rw [e]
  clear e
  simp only [CfgV.cells]
  go_enter Try.func33, Try.ntmps33
  go_wp2_with fail
  go_ret
  exact ⟨ret_bool (by first | rfl | (simp <;> omega)), by (repeat' with_reducible (first | exact Keeps.refl _ _ | assumption | apply Keeps.drew | apply Keeps.drewN | apply Keeps.alloc))⟩


set_option maxRecDepth 100000 in
set_option maxHeartbeats 4000000 in
theorem refHolds_5 (c : CfgV) (w : World) (h : CfgAt w c) :
    Calls Try.prog 33 #[.agg c.cells, .int .i64 5] w (Says (.bool (spRule c 4)) w) := by
  have hpn := h.pn
  have hcn := h.cn
  have Hc := Lib.hid h
  clear h
  generalize hG : spRule c 4 = G
  have HG := Lib.hid hG
  clear hG
  simp only [CfgV.cells]
  go_enter Try.func33, Try.ntmps33
  go_wp2_with (first | (go_at_call 43; (with_reducible refine (refChans_5 c _ (Hc.out.kept (by (repeat' with_reducible (first | exact Keeps.refl _ _ | assumption | apply Keeps.drew | apply Keeps.drewN | apply Keeps.alloc))))).mono ?_); rintro e w1 ⟨rfl, hk1⟩; rw [HG.out]) | (fail))
  go_ret
  exact ⟨ret_bool rfl, by (repeat' with_reducible (first | exact Keeps.refl _ _ | assumption | apply Keeps.drew | apply Keeps.drewN | apply Keeps.alloc | refine Keeps.trans ?_ hk1 | refine Keeps.trans ?_ hk2))⟩


set_option maxRecDepth 100000 in
set_option maxHeartbeats 4000000 in
theorem refHolds_6 (c : CfgV) (w : World) (h : CfgAt w c) :
    Calls Try.prog 33 #[.agg c.cells, .int .i64 6] w (Says (.bool (spRule c 5)) w) := by
  have hpn := h.pn
  have hcn := h.cn
  have Hc := Lib.hid h
  clear h
  generalize hG : spRule c 5 = G
  have HG := Lib.hid hG
  clear hG
  simp only [CfgV.cells]
  go_enter Try.func33, Try.ntmps33
  go_wp2_with (first | (go_at_call 43; (with_reducible refine (refChans_6 c _ (Hc.out.kept (by (repeat' with_reducible (first | exact Keeps.refl _ _ | assumption | apply Keeps.drew | apply Keeps.drewN | apply Keeps.alloc))))).mono ?_); rintro e w1 ⟨rfl, hk1⟩; rw [HG.out]) | (fail))
  go_ret
  exact ⟨ret_bool rfl, by (repeat' with_reducible (first | exact Keeps.refl _ _ | assumption | apply Keeps.drew | apply Keeps.drewN | apply Keeps.alloc | refine Keeps.trans ?_ hk1 | refine Keeps.trans ?_ hk2))⟩


set_option maxRecDepth 100000 in
set_option maxHeartbeats 4000000 in
theorem refHolds_7 (c : CfgV) (w : World) (h : CfgAt w c) :
    Calls Try.prog 33 #[.agg c.cells, .int .i64 7] w (Says (.bool (spRule c 6)) w) := by
  have hpn := h.pn
  have hcn := h.cn
  have Hc := Lib.hid h
  clear h
  generalize hG : spRule c 6 = G
  have HG := Lib.hid hG
  clear hG
  simp only [CfgV.cells]
  go_enter Try.func33, Try.ntmps33
  go_wp2_with (first | (go_at_call 43; (with_reducible refine (refChans_7 c _ (Hc.out.kept (by (repeat' with_reducible (first | exact Keeps.refl _ _ | assumption | apply Keeps.drew | apply Keeps.drewN | apply Keeps.alloc))))).mono ?_); rintro e w1 ⟨rfl, hk1⟩; rw [HG.out]) | (fail))
  go_ret
  exact ⟨ret_bool rfl, by (repeat' with_reducible (first | exact Keeps.refl _ _ | assumption | apply Keeps.drew | apply Keeps.drewN | apply Keeps.alloc | refine Keeps.trans ?_ hk1 | refine Keeps.trans ?_ hk2))⟩


set_option maxRecDepth 100000 in
set_option maxHeartbeats 4000000 in
theorem refHolds_8 (c : CfgV) (w : World) (h : CfgAt w c) :
    Calls Try.prog 33 #[.agg c.cells, .int .i64 8] w (Says (.bool (spRule c 7)) w) := by
  have hpn := h.pn
  have hcn := h.cn
  have Hc := Lib.hid h
  clear h
  generalize hG : spRule c 7 = G
  have HG := Lib.hid hG
  clear hG
  simp only [CfgV.cells]
  go_enter Try.func33, Try.ntmps33
  go_wp2_with (first | (go_at_call 43; (with_reducible refine (refChans_8 c _ (Hc.out.kept (by (repeat' with_reducible (first | exact Keeps.refl _ _ | assumption | apply Keeps.drew | apply Keeps.drewN | apply Keeps.alloc))))).mono ?_); rintro e w1 ⟨rfl, hk1⟩; rw [HG.out]) | (fail))
  go_ret
  exact ⟨ret_bool rfl, by (repeat' with_reducible (first | exact Keeps.refl _ _ | assumption | apply Keeps.drew | apply Keeps.drewN | apply Keeps.alloc | refine Keeps.trans ?_ hk1 | refine Keeps.trans ?_ hk2))⟩


set_option maxRecDepth 100000 in
set_option maxHeartbeats 4000000 in
theorem refHolds_9 (c : CfgV) (w : World) (h : CfgAt w c) :
    Calls Try.prog 33 #[.agg c.cells, .int .i64 9] w (Says (.bool (spRule c 8)) w) := by
  have hpn := h.pn
  have hcn := h.cn
  have Hc := Lib.hid h
  clear h
  generalize hG : spRule c 8 = G
  have HG := Lib.hid hG
  clear hG
  simp only [CfgV.cells]
  go_enter Try.func33, Try.ntmps33
  go_wp2_with (first | (go_at_call 43; (with_reducible refine (refChans_9 c _ (Hc.out.kept (by (repeat' with_reducible (first | exact Keeps.refl _ _ | assumption | apply Keeps.drew | apply Keeps.drewN | apply Keeps.alloc))))).mono ?_); rintro e w1 ⟨rfl, hk1⟩; rw [HG.out]) | (fail))
  go_ret
  exact ⟨ret_bool rfl, by (repeat' with_reducible (first | exact Keeps.refl _ _ | assumption | apply Keeps.drew | apply Keeps.drewN | apply Keeps.alloc | refine Keeps.trans ?_ hk1 | refine Keeps.trans ?_ hk2))⟩


set_option maxRecDepth 100000 in
set_option maxHeartbeats 4000000 in
theorem refHolds_10 (c : CfgV) (w : World) (h : CfgAt w c) :
    Calls Try.prog 33 #[.agg c.cells, .int .i64 10] w (Says (.bool (spRule c 9)) w) := by
  have hpn := h.pn
  have hcn := h.cn
  have Hc := Lib.hid h
  clear h
  generalize hG : spRule c 9 = G
  have HG := Lib.hid hG
  clear hG
  simp only [CfgV.cells]
  go_enter Try.func33, Try.ntmps33
  go_wp2_with (first | (go_at_call 43; (with_reducible refine (refChans_10 c _ (Hc.out.kept (by (repeat' with_reducible (first | exact Keeps.refl _ _ | assumption | apply Keeps.drew | apply Keeps.drewN | apply Keeps.alloc))))).mono ?_); rintro e w1 ⟨rfl, hk1⟩; rw [HG.out]) | (fail))
  go_ret
  exact ⟨ret_bool rfl, by (repeat' with_reducible (first | exact Keeps.refl _ _ | assumption | apply Keeps.drew | apply Keeps.drewN | apply Keeps.alloc | refine Keeps.trans ?_ hk1 | refine Keeps.trans ?_ hk2))⟩


set_option maxRecDepth 100000 in
set_option maxHeartbeats 4000000 in
theorem refHolds_11 (c : CfgV) (w : World) (h : CfgAt w c) :
    Calls Try.prog 33 #[.agg c.cells, .int .i64 11] w (Says (.bool (spRule c 10)) w) := by
  have hpn := h.pn
  have hcn := h.cn
  have Hc := Lib.hid h
  clear h
  generalize hG : spRule c 10 = G
  have HG := Lib.hid hG
  clear hG
  simp only [CfgV.cells]
  go_enter Try.func33, Try.ntmps33
  go_wp2_with (first | (go_at_call 43; (with_reducible refine (refChans_11 c _ (Hc.out.kept (by (repeat' with_reducible (first | exact Keeps.refl _ _ | assumption | apply Keeps.drew | apply Keeps.drewN | apply Keeps.alloc))))).mono ?_); rintro e w1 ⟨rfl, hk1⟩; rw [HG.out]) | (fail))
  go_ret
  exact ⟨ret_bool rfl, by (repeat' with_reducible (first | exact Keeps.refl _ _ | assumption | apply Keeps.drew | apply Keeps.drewN | apply Keeps.alloc | refine Keeps.trans ?_ hk1 | refine Keeps.trans ?_ hk2))⟩


set_option maxRecDepth 100000 in
set_option maxHeartbeats 4000000 in
theorem refHolds_12 (c : CfgV) (w : World) (h : CfgAt w c) :
    Calls Try.prog 33 #[.agg c.cells, .int .i64 12] w (Says (.bool (spRule c 11)) w) := by
  have hpn := h.pn
  have hcn := h.cn
  have Hc := Lib.hid h
  clear h
  have e : spRule c 11 = ((!inR c.l0 1 64) || (!inR c.l1 1 64)) := rfl
  rw [e]
  clear e
  generalize hA0 : (!inR c.l0 1 64) = A
  generalize hB0 : (!inR c.l1 1 64) = B
  have HA := Lib.hid hA0
  have HB := Lib.hid hB0
  clear hA0 hB0
  cases hA : A
  · simp only [CfgV.cells]
    go_enter Try.func33, Try.ntmps33
    go_wp2_with (first | (go_at_call 44; (with_reducible refine (refWindows_12_0 c _ (Hc.out.kept (by (repeat' with_reducible (first | exact Keeps.refl _ _ | assumption | apply Keeps.drew | apply Keeps.drewN | apply Keeps.alloc))))).mono ?_); rintro e w1 ⟨rfl, hk1⟩; rw [HA.out, hA]; have B1 : Blk w1 w.heap.size c.cells 31 := Blk.keep (l := []) (by (repeat' (first | with_reducible (first | apply Blk.drew | (refine Blk.newAt ?_; first | rfl | (simp; done)) | apply Blk.alloc)))) hk1 (by simp); have C1 := B1.cell) | (go_at_call 44; (with_reducible refine (refWindows_12_1 c _ (Hc.out.kept (by (repeat' with_reducible (first | exact Keeps.refl _ _ | assumption | apply Keeps.drew | apply Keeps.drewN | apply Keeps.alloc | refine Keeps.trans ?_ hk1 | refine Keeps.trans ?_ hk2))))).mono ?_); rintro e w2 ⟨rfl, hk2⟩; rw [HB.out]) | (fail))
    go_ret
    exact ⟨ret_bool (by simp), by (repeat' with_reducible (first | exact Keeps.refl _ _ | assumption | apply Keeps.drew | apply Keeps.drewN | apply Keeps.alloc | refine Keeps.trans ?_ hk1 | refine Keeps.trans ?_ hk2))⟩
  · simp only [CfgV.cells]
    go_enter Try.func33, Try.ntmps33
    go_wp2_with (first | (go_at_call 44; (with_reducible refine (refWindows_12_0 c _ (Hc.out.kept (by (repeat' with_reducible (first | exact Keeps.refl _ _ | assumption | apply Keeps.drew | apply Keeps.drewN | apply Keeps.alloc))))).mono ?_); rintro e w1 ⟨rfl, hk1⟩; rw [HA.out, hA]; have B1 : Blk w1 w.heap.size c.cells 31 := Blk.keep (l := []) (by (repeat' (first | with_reducible (first | apply Blk.drew | (refine Blk.newAt ?_; first | rfl | (simp; done)) | apply Blk.alloc)))) hk1 (by simp); have C1 := B1.cell) | (fail))
    go_ret
    exact ⟨ret_bool (by simp), by (repeat' with_reducible (first | exact Keeps.refl _ _ | assumption | apply Keeps.drew | apply Keeps.drewN | apply Keeps.alloc | refine Keeps.trans ?_ hk1 | refine Keeps.trans ?_ hk2))⟩


set_option maxRecDepth 100000 in
set_option maxHeartbeats 4000000 in
theorem refHolds_13 (c : CfgV) (w : World) (h : CfgAt w c) :
    Calls Try.prog 33 #[.agg c.cells, .int .i64 13] w (Says (.bool (spRule c 12)) w) := by
  have hpn := h.pn
  have hcn := h.cn
  have Hc := Lib.hid h
  clear h
  have e : spRule c 12 = ((decide (16 < (c.w0n : Int))) || (decide (16 < (c.w1n : Int)))) := rfl
  rw [e]
  clear e
  generalize hA0 : (decide (16 < (c.w0n : Int))) = A
  generalize hB0 : (decide (16 < (c.w1n : Int))) = B
  have HA := Lib.hid hA0
  have HB := Lib.hid hB0
  clear hA0 hB0
  cases hA : A
  · simp only [CfgV.cells]
    go_enter Try.func33, Try.ntmps33
    go_wp2_with (first | (go_at_call 44; (with_reducible refine (refWindows_13_0 c _ (Hc.out.kept (by (repeat' with_reducible (first | exact Keeps.refl _ _ | assumption | apply Keeps.drew | apply Keeps.drewN | apply Keeps.alloc))))).mono ?_); rintro e w1 ⟨rfl, hk1⟩; rw [HA.out, hA]; have B1 : Blk w1 w.heap.size c.cells 31 := Blk.keep (l := []) (by (repeat' (first | with_reducible (first | apply Blk.drew | (refine Blk.newAt ?_; first | rfl | (simp; done)) | apply Blk.alloc)))) hk1 (by simp); have C1 := B1.cell) | (go_at_call 44; (with_reducible refine (refWindows_13_1 c _ (Hc.out.kept (by (repeat' with_reducible (first | exact Keeps.refl _ _ | assumption | apply Keeps.drew | apply Keeps.drewN | apply Keeps.alloc | refine Keeps.trans ?_ hk1 | refine Keeps.trans ?_ hk2))))).mono ?_); rintro e w2 ⟨rfl, hk2⟩; rw [HB.out]) | (fail))
    go_ret
    exact ⟨ret_bool (by simp), by (repeat' with_reducible (first | exact Keeps.refl _ _ | assumption | apply Keeps.drew | apply Keeps.drewN | apply Keeps.alloc | refine Keeps.trans ?_ hk1 | refine Keeps.trans ?_ hk2))⟩
  · simp only [CfgV.cells]
    go_enter Try.func33, Try.ntmps33
    go_wp2_with (first | (go_at_call 44; (with_reducible refine (refWindows_13_0 c _ (Hc.out.kept (by (repeat' with_reducible (first | exact Keeps.refl _ _ | assumption | apply Keeps.drew | apply Keeps.drewN | apply Keeps.alloc))))).mono ?_); rintro e w1 ⟨rfl, hk1⟩; rw [HA.out, hA]; have B1 : Blk w1 w.heap.size c.cells 31 := Blk.keep (l := []) (by (repeat' (first | with_reducible (first | apply Blk.drew | (refine Blk.newAt ?_; first | rfl | (simp; done)) | apply Blk.alloc)))) hk1 (by simp); have C1 := B1.cell) | (fail))
    go_ret
    exact ⟨ret_bool (by simp), by (repeat' with_reducible (first | exact Keeps.refl _ _ | assumption | apply Keeps.drew | apply Keeps.drewN | apply Keeps.alloc | refine Keeps.trans ?_ hk1 | refine Keeps.trans ?_ hk2))⟩


set_option maxRecDepth 100000 in
set_option maxHeartbeats 4000000 in
theorem refHolds_14 (c : CfgV) (w : World) (h : CfgAt w c) :
    Calls Try.prog 33 #[.agg c.cells, .int .i64 14] w (Says (.bool (spRule c 13)) w) := by
  have hpn := h.pn
  have hcn := h.cn
  have Hc := Lib.hid h
  clear h
  have e : spRule c 13 = ((anyOf (fun i => spForeign c 0 (c.win0 i 0) (c.win0 i 1) (c.win0 i 2)) c.w0n) || (anyOf (fun i => spForeign c 1 (c.win1 i 0) (c.win1 i 1) (c.win1 i 2)) c.w1n)) := rfl
  rw [e]
  clear e
  generalize hA0 : (anyOf (fun i => spForeign c 0 (c.win0 i 0) (c.win0 i 1) (c.win0 i 2)) c.w0n) = A
  generalize hB0 : (anyOf (fun i => spForeign c 1 (c.win1 i 0) (c.win1 i 1) (c.win1 i 2)) c.w1n) = B
  have HA := Lib.hid hA0
  have HB := Lib.hid hB0
  clear hA0 hB0
  cases hA : A
  · simp only [CfgV.cells]
    go_enter Try.func33, Try.ntmps33
    go_wp2_with (first | (go_at_call 44; (with_reducible refine (refWindows_14_0 c _ (Hc.out.kept (by (repeat' with_reducible (first | exact Keeps.refl _ _ | assumption | apply Keeps.drew | apply Keeps.drewN | apply Keeps.alloc))))).mono ?_); rintro e w1 ⟨rfl, hk1⟩; rw [HA.out, hA]; have B1 : Blk w1 w.heap.size c.cells 31 := Blk.keep (l := []) (by (repeat' (first | with_reducible (first | apply Blk.drew | (refine Blk.newAt ?_; first | rfl | (simp; done)) | apply Blk.alloc)))) hk1 (by simp); have C1 := B1.cell) | (go_at_call 44; (with_reducible refine (refWindows_14_1 c _ (Hc.out.kept (by (repeat' with_reducible (first | exact Keeps.refl _ _ | assumption | apply Keeps.drew | apply Keeps.drewN | apply Keeps.alloc | refine Keeps.trans ?_ hk1 | refine Keeps.trans ?_ hk2))))).mono ?_); rintro e w2 ⟨rfl, hk2⟩; rw [HB.out]) | (fail))
    go_ret
    exact ⟨ret_bool (by simp), by (repeat' with_reducible (first | exact Keeps.refl _ _ | assumption | apply Keeps.drew | apply Keeps.drewN | apply Keeps.alloc | refine Keeps.trans ?_ hk1 | refine Keeps.trans ?_ hk2))⟩
  · simp only [CfgV.cells]
    go_enter Try.func33, Try.ntmps33
    go_wp2_with (first | (go_at_call 44; (with_reducible refine (refWindows_14_0 c _ (Hc.out.kept (by (repeat' with_reducible (first | exact Keeps.refl _ _ | assumption | apply Keeps.drew | apply Keeps.drewN | apply Keeps.alloc))))).mono ?_); rintro e w1 ⟨rfl, hk1⟩; rw [HA.out, hA]; have B1 : Blk w1 w.heap.size c.cells 31 := Blk.keep (l := []) (by (repeat' (first | with_reducible (first | apply Blk.drew | (refine Blk.newAt ?_; first | rfl | (simp; done)) | apply Blk.alloc)))) hk1 (by simp); have C1 := B1.cell) | (fail))
    go_ret
    exact ⟨ret_bool (by simp), by (repeat' with_reducible (first | exact Keeps.refl _ _ | assumption | apply Keeps.drew | apply Keeps.drewN | apply Keeps.alloc | refine Keeps.trans ?_ hk1 | refine Keeps.trans ?_ hk2))⟩


set_option maxRecDepth 100000 in
set_option maxHeartbeats 4000000 in
theorem refHolds_15 (c : CfgV) (w : World) (h : CfgAt w c) :
    Calls Try.prog 33 #[.agg c.cells, .int .i64 15] w (Says (.bool (spRule c 14)) w) := by
  have hpn := h.pn
  have hcn := h.cn
  have Hc := Lib.hid h
  clear h
  have e : spRule c 14 = ((anyOf (fun i => spOutside (c.win0 i 1) (c.win0 i 2) c.l0) c.w0n) || (anyOf (fun i => spOutside (c.win1 i 1) (c.win1 i 2) c.l1) c.w1n)) := rfl
  rw [e]
  clear e
  generalize hA0 : (anyOf (fun i => spOutside (c.win0 i 1) (c.win0 i 2) c.l0) c.w0n) = A
  generalize hB0 : (anyOf (fun i => spOutside (c.win1 i 1) (c.win1 i 2) c.l1) c.w1n) = B
  have HA := Lib.hid hA0
  have HB := Lib.hid hB0
  clear hA0 hB0
  cases hA : A
  · simp only [CfgV.cells]
    go_enter Try.func33, Try.ntmps33
    go_wp2_with (first | (go_at_call 44; (with_reducible refine (refWindows_15_0 c _ (Hc.out.kept (by (repeat' with_reducible (first | exact Keeps.refl _ _ | assumption | apply Keeps.drew | apply Keeps.drewN | apply Keeps.alloc))))).mono ?_); rintro e w1 ⟨rfl, hk1⟩; rw [HA.out, hA]; have B1 : Blk w1 w.heap.size c.cells 31 := Blk.keep (l := []) (by (repeat' (first | with_reducible (first | apply Blk.drew | (refine Blk.newAt ?_; first | rfl | (simp; done)) | apply Blk.alloc)))) hk1 (by simp); have C1 := B1.cell) | (go_at_call 44; (with_reducible refine (refWindows_15_1 c _ (Hc.out.kept (by (repeat' with_reducible (first | exact Keeps.refl _ _ | assumption | apply Keeps.drew | apply Keeps.drewN | apply Keeps.alloc | refine Keeps.trans ?_ hk1 | refine Keeps.trans ?_ hk2))))).mono ?_); rintro e w2 ⟨rfl, hk2⟩; rw [HB.out]) | (fail))
    go_ret
    exact ⟨ret_bool (by simp), by (repeat' with_reducible (first | exact Keeps.refl _ _ | assumption | apply Keeps.drew | apply Keeps.drewN | apply Keeps.alloc | refine Keeps.trans ?_ hk1 | refine Keeps.trans ?_ hk2))⟩
  · simp only [CfgV.cells]
    go_enter Try.func33, Try.ntmps33
    go_wp2_with (first | (go_at_call 44; (with_reducible refine (refWindows_15_0 c _ (Hc.out.kept (by (repeat' with_reducible (first | exact Keeps.refl _ _ | assumption | apply Keeps.drew | apply Keeps.drewN | apply Keeps.alloc))))).mono ?_); rintro e w1 ⟨rfl, hk1⟩; rw [HA.out, hA]; have B1 : Blk w1 w.heap.size c.cells 31 := Blk.keep (l := []) (by (repeat' (first | with_reducible (first | apply Blk.drew | (refine Blk.newAt ?_; first | rfl | (simp; done)) | apply Blk.alloc)))) hk1 (by simp); have C1 := B1.cell) | (fail))
    go_ret
    exact ⟨ret_bool (by simp), by (repeat' with_reducible (first | exact Keeps.refl _ _ | assumption | apply Keeps.drew | apply Keeps.drewN | apply Keeps.alloc | refine Keeps.trans ?_ hk1 | refine Keeps.trans ?_ hk2))⟩


set_option maxRecDepth 100000 in
set_option maxHeartbeats 4000000 in
theorem refHolds_16 (c : CfgV) (w : World) (h : CfgAt w c) :
    Calls Try.prog 33 #[.agg c.cells, .int .i64 16] w (Says (.bool (spRule c 15)) w) := by
  have hpn := h.pn
  have hcn := h.cn
  have Hc := Lib.hid h
  clear h
  have e : spRule c 15 = ((spCrossed c.win0 c.w0n) || (spCrossed c.win1 c.w1n)) := rfl
  rw [e]
  clear e
  generalize hA0 : (spCrossed c.win0 c.w0n) = A
  generalize hB0 : (spCrossed c.win1 c.w1n) = B
  have HA := Lib.hid hA0
  have HB := Lib.hid hB0
  clear hA0 hB0
  cases hA : A
  · simp only [CfgV.cells]
    go_enter Try.func33, Try.ntmps33
    go_wp2_with (first | (go_at_call 44; (with_reducible refine (refWindows_16_0 c _ (Hc.out.kept (by (repeat' with_reducible (first | exact Keeps.refl _ _ | assumption | apply Keeps.drew | apply Keeps.drewN | apply Keeps.alloc))))).mono ?_); rintro e w1 ⟨rfl, hk1⟩; rw [HA.out, hA]; have B1 : Blk w1 w.heap.size c.cells 31 := Blk.keep (l := []) (by (repeat' (first | with_reducible (first | apply Blk.drew | (refine Blk.newAt ?_; first | rfl | (simp; done)) | apply Blk.alloc)))) hk1 (by simp); have C1 := B1.cell) | (go_at_call 44; (with_reducible refine (refWindows_16_1 c _ (Hc.out.kept (by (repeat' with_reducible (first | exact Keeps.refl _ _ | assumption | apply Keeps.drew | apply Keeps.drewN | apply Keeps.alloc | refine Keeps.trans ?_ hk1 | refine Keeps.trans ?_ hk2))))).mono ?_); rintro e w2 ⟨rfl, hk2⟩; rw [HB.out]) | (fail))
    go_ret
    exact ⟨ret_bool (by simp), by (repeat' with_reducible (first | exact Keeps.refl _ _ | assumption | apply Keeps.drew | apply Keeps.drewN | apply Keeps.alloc | refine Keeps.trans ?_ hk1 | refine Keeps.trans ?_ hk2))⟩
  · simp only [CfgV.cells]
    go_enter Try.func33, Try.ntmps33
    go_wp2_with (first | (go_at_call 44; (with_reducible refine (refWindows_16_0 c _ (Hc.out.kept (by (repeat' with_reducible (first | exact Keeps.refl _ _ | assumption | apply Keeps.drew | apply Keeps.drewN | apply Keeps.alloc))))).mono ?_); rintro e w1 ⟨rfl, hk1⟩; rw [HA.out, hA]; have B1 : Blk w1 w.heap.size c.cells 31 := Blk.keep (l := []) (by (repeat' (first | with_reducible (first | apply Blk.drew | (refine Blk.newAt ?_; first | rfl | (simp; done)) | apply Blk.alloc)))) hk1 (by simp); have C1 := B1.cell) | (fail))
    go_ret
    exact ⟨ret_bool (by simp), by (repeat' with_reducible (first | exact Keeps.refl _ _ | assumption | apply Keeps.drew | apply Keeps.drewN | apply Keeps.alloc | refine Keeps.trans ?_ hk1 | refine Keeps.trans ?_ hk2))⟩

end Go.Proofs.Ytpkjffiajidfcaa

/- Holds of package portholeref07. -/
namespace Go.Proofs.Ytpkjffiajidfcaa
open Go.RowKit


set_option maxRecDepth 100000 in
set_option maxHeartbeats 4000000 in
theorem refHolds_2 (c : CfgV) (w : World) (h : CfgAt w c) :
    Calls Try.prog 33 #[.agg c.cells, .int .i64 2] w (Says (.bool (spRule c 1)) w) := by
  have hpn := h.pn
  have hcn := h.cn
  have Hc := Lib.hid h
  clear h
  generalize hG : spRule c 1 = G
  have HG := Lib.hid (hG : anyOf (fun i => !inR (c.part i 0) 0 1) c.pn = G)
  clear hG
  simp only [CfgV.cells]
  go_enter Try.func33, Try.ntmps33
  go_wp2_with fail
  go_loopw [5] (fun v wr => ∃ i : Nat, i ≤ c.pn ∧ v = .int .i64 i ∧ (∀ j, j < i → (fun i => !inR (c.part i 0) 0 1) j = false) ∧ Keeps [] (w.alloc (.cells c.cells 31)) wr) (fun v _ => c.pn - (intOf v).toNat)
  case atStart => exact ⟨0, Nat.zero_le _, rfl, by intro j hj; omega, Keeps.refl _ _⟩
  case round =>
    obtain ⟨i, hi, rfl, hg0, hk⟩ := hrel
    have Hg := Lib.hid hg0
    clear hg0
    have hbx : Blk wr w.heap.size c.cells 31 := (Blk.new _ _ _).keep hk (by simp)
    have hbl := hbx.lt
    have hbc := hbx.cell
    have Hk0 := Lib.hid hk
    have Hkk := Lib.hid (Keeps.trans (by (repeat' with_reducible (first | exact Keeps.refl _ _ | assumption | apply Keeps.drew | apply Keeps.drewN | apply Keeps.alloc))) hk : Keeps [] w wr)
    by_cases hlt : i < c.pn
    · obtain ⟨b, o, hpa, hb, hrow⟩ := Hc.out.parts.resolve_left (by omega)
      have hi0 : (0 : Int) ≤ (i : Int) := Int.natCast_nonneg _
      have hi1 : (i : Int) < (c.pn : Int) := by omega
      have hbr : b < wr.heap.size := by have := hk.size; simp at this; omega
      have hk := Hkk.out
      have c0 : wr.cell? ⟨b, o + i * 2, none⟩ = some (.int .i64 (c.part i 0)) := (Keeps.cell hk hb (by simp)).trans (by simpa [i64s] using hrow i hlt 0 (by omega))
      have c1 : wr.cell? ⟨b, o + i * 2 + 1, none⟩ = some (.int .i64 (c.part i 1)) := (Keeps.cell hk hb (by simp)).trans (hrow i hlt 1 (by omega))
      clear hrow hk
      by_cases p1 : c.part i 0 = 0
      · have P1 := Lib.hid p1
        have q1 : (c.part i 0 == 0) = true := by simpa using p1
        have r1 : (c.part i 0 != 0) = false := by simpa using p1
        clear p1
        go_wp2_with fail
        all_goals (try go_quiet (fail))
        all_goals (try go_wp2_with fail)
        first | (rw [← hpa]; go_roundw) | go_roundw | (refine ⟨?rel, ?measure⟩)
        case rel =>
          refine ⟨i + 1, by omega, by go_num, ?_, Keeps.trans Hk0.out (by (repeat' with_reducible (first | exact Keeps.refl _ _ | assumption | apply Keeps.drew | apply Keeps.drewN | apply Keeps.alloc | refine Keeps.trans ?_ hk1 | refine Keeps.trans ?_ hk2)))⟩
          intro j hj
          by_cases ej : j = i
          · rw [ej]; (try have P1 := P1.out); (try have P2 := P2.out); simp [inR] <;> omega
          · exact Hg.out j (by omega)
        case measure => simp [intOf]; omega
      · have P1 := Lib.hid p1
        have q1 : (c.part i 0 == 0) = false := by simpa using p1
        have r1 : (c.part i 0 != 0) = true := by simpa using p1
        clear p1
        by_cases p2 : c.part i 0 = 1
        · have P2 := Lib.hid p2
          have q2 : (c.part i 0 == 1) = true := by simpa using p2
          have r2 : (c.part i 0 != 1) = false := by simpa using p2
          clear p2
          go_wp2_with fail
          all_goals (try go_quiet (fail))
          all_goals (try go_wp2_with fail)
          first | (rw [← hpa]; go_roundw) | go_roundw | (refine ⟨?rel, ?measure⟩)
          case rel =>
            refine ⟨i + 1, by omega, by go_num, ?_, Keeps.trans Hk0.out (by (repeat' with_reducible (first | exact Keeps.refl _ _ | assumption | apply Keeps.drew | apply Keeps.drewN | apply Keeps.alloc | refine Keeps.trans ?_ hk1 | refine Keeps.trans ?_ hk2)))⟩
            intro j hj
            by_cases ej : j = i
            · rw [ej]; (try have P1 := P1.out); (try have P2 := P2.out); simp [inR] <;> omega
            · exact Hg.out j (by omega)
          case measure => simp [intOf]; omega
        · have P2 := Lib.hid p2
          have q2 : (c.part i 0 == 1) = false := by simpa using p2
          have r2 : (c.part i 0 != 1) = true := by simpa using p2
          clear p2
          go_wp2_with fail
          all_goals (try go_quiet (fail))
          all_goals (try go_wp2_with fail)
          go_ret
          exact ⟨ret_bool (by rw [← HG.out]; exact (anyOf_true hlt (by (try have P1 := P1.out); (try have P2 := P2.out); simp [inR] <;> omega)).symm), Keeps.trans Hkk.out (by (repeat' with_reducible (first | exact Keeps.refl _ _ | assumption | apply Keeps.drew | apply Keeps.drewN | apply Keeps.alloc | refine Keeps.trans ?_ hk1 | refine Keeps.trans ?_ hk2)))⟩
    · go_wp2
      go_ret
      exact ⟨ret_bool (by rw [← HG.out]; exact (anyOf_false fun j hj => Hg.out j (by omega)).symm), Hkk.out⟩

end Go.Proofs.Ytpkjffiajidfcaa

/- Holds of package portholeref07. -/
namespace Go.Proofs.Ytpkjffiajidfcaa
open Go.RowKit


set_option maxRecDepth 100000 in
set_option maxHeartbeats 4000000 in
theorem refHolds_3 (c : CfgV) (w : World) (h : CfgAt w c) :
    Calls Try.prog 33 #[.agg c.cells, .int .i64 3] w (Says (.bool (spRule c 2)) w) := by
  have hpn := h.pn
  have hcn := h.cn
  have Hc := Lib.hid h
  clear h
  generalize hG : spRule c 2 = G
  have HG := Lib.hid (hG : anyOf (fun i => !inR (c.part i 1) 0 64) c.pn = G)
  clear hG
  simp only [CfgV.cells]
  go_enter Try.func33, Try.ntmps33
  go_wp2_with fail
  go_loopw [5] (fun v wr => ∃ i : Nat, i ≤ c.pn ∧ v = .int .i64 i ∧ (∀ j, j < i → (fun i => !inR (c.part i 1) 0 64) j = false) ∧ Keeps [] (w.alloc (.cells c.cells 31)) wr) (fun v _ => c.pn - (intOf v).toNat)
  case atStart => exact ⟨0, Nat.zero_le _, rfl, by intro j hj; omega, Keeps.refl _ _⟩
  case round =>
    obtain ⟨i, hi, rfl, hg0, hk⟩ := hrel
    have Hg := Lib.hid hg0
    clear hg0
    have hbx : Blk wr w.heap.size c.cells 31 := (Blk.new _ _ _).keep hk (by simp)
    have hbl := hbx.lt
    have hbc := hbx.cell
    have Hk0 := Lib.hid hk
    have Hkk := Lib.hid (Keeps.trans (by (repeat' with_reducible (first | exact Keeps.refl _ _ | assumption | apply Keeps.drew | apply Keeps.drewN | apply Keeps.alloc))) hk : Keeps [] w wr)
    by_cases hlt : i < c.pn
    · obtain ⟨b, o, hpa, hb, hrow⟩ := Hc.out.parts.resolve_left (by omega)
      have hi0 : (0 : Int) ≤ (i : Int) := Int.natCast_nonneg _
      have hi1 : (i : Int) < (c.pn : Int) := by omega
      have hbr : b < wr.heap.size := by have := hk.size; simp at this; omega
      have hk := Hkk.out
      have c0 : wr.cell? ⟨b, o + i * 2, none⟩ = some (.int .i64 (c.part i 0)) := (Keeps.cell hk hb (by simp)).trans (by simpa [i64s] using hrow i hlt 0 (by omega))
      have c1 : wr.cell? ⟨b, o + i * 2 + 1, none⟩ = some (.int .i64 (c.part i 1)) := (Keeps.cell hk hb (by simp)).trans (hrow i hlt 1 (by omega))
      clear hrow hk
      by_cases p1 : c.part i 1 < 0
      · have P1 := Lib.hid p1
        have q1 : decide (c.part i 1 < 0) = true := by simpa using p1
        go_wp2_with fail
        all_goals (try go_quiet (fail))
        all_goals (try go_wp2_with fail)
        go_ret
        exact ⟨ret_bool (by rw [← HG.out]; exact (anyOf_true hlt (by (try have P1 := P1.out); (try have P2 := P2.out); simp [inR] <;> omega)).symm), Keeps.trans Hkk.out (by (repeat' with_reducible (first | exact Keeps.refl _ _ | assumption | apply Keeps.drew | apply Keeps.drewN | apply Keeps.alloc | refine Keeps.trans ?_ hk1 | refine Keeps.trans ?_ hk2)))⟩
      · have P1 := Lib.hid p1
        have q1 : decide (c.part i 1 < 0) = false := by simpa using p1
        by_cases p2 : 64 < c.part i 1
        · have P2 := Lib.hid p2
          have q2 : decide (64 < c.part i 1) = true := by simpa using p2
          go_wp2_with fail
          all_goals (try go_quiet (fail))
          all_goals (try go_wp2_with fail)
          go_ret
          exact ⟨ret_bool (by rw [← HG.out]; exact (anyOf_true hlt (by (try have P1 := P1.out); (try have P2 := P2.out); simp [inR] <;> omega)).symm), Keeps.trans Hkk.out (by (repeat' with_reducible (first | exact Keeps.refl _ _ | assumption | apply Keeps.drew | apply Keeps.drewN | apply Keeps.alloc | refine Keeps.trans ?_ hk1 | refine Keeps.trans ?_ hk2)))⟩
        · have P2 := Lib.hid p2
          have q2 : decide (64 < c.part i 1) = false := by simpa using p2
          go_wp2_with fail
          all_goals (try go_quiet (fail))
          all_goals (try go_wp2_with fail)
          first | (rw [← hpa]; go_roundw) | go_roundw | (refine ⟨?rel, ?measure⟩)
          case rel =>
            refine ⟨i + 1, by omega, by go_num, ?_, Keeps.trans Hk0.out (by (repeat' with_reducible (first | exact Keeps.refl _ _ | assumption | apply Keeps.drew | apply Keeps.drewN | apply Keeps.alloc | refine Keeps.trans ?_ hk1 | refine Keeps.trans ?_ hk2)))⟩
            intro j hj
            by_cases ej : j = i
            · rw [ej]; (try have P1 := P1.out); (try have P2 := P2.out); simp [inR] <;> omega
            · exact Hg.out j (by omega)
          case measure => simp [intOf]; omega
    · go_wp2
      go_ret
      exact ⟨ret_bool (by rw [← HG.out]; exact (anyOf_false fun j hj => Hg.out j (by omega)).symm), Hkk.out⟩

end Go.Proofs.Ytpkjffiajidfcaa

/- window of package portholeref07. -/
namespace Go.Proofs.Ytpkjffiajidfcaa
open Go.RowKit

/-- Has partition p a window of its core? -/
def spOwn (c : CfgV) (p : Nat) : Bool := !spIdleAt c p


set_option maxRecDepth 100000 in
set_option maxHeartbeats 4000000 in
theorem refWindow_any (c : CfgV) (p : Nat) (hp : p < c.pn) (w : World) (h : CfgAt w c) :
    Calls Try.prog 42 #[.agg c.cells, .int .i64 (p : Int)] w (Says (.bool (spOwn c p)) w) := by
  have hpn := h.pn
  have hw0n := h.w0n
  have hw1n := h.w1n
  have Hc := Lib.hid h
  obtain ⟨pb, po, hpa, hpb, hprow⟩ := h.parts.resolve_left (by omega)
  have d0 : w.cell? ⟨pb, po + p * 2, none⟩ = some (.int .i64 (c.part p 0)) := by simpa [i64s] using hprow p hp 0 (by omega)
  have hp0 : (0 : Int) ≤ (p : Int) := Int.natCast_nonneg _
  have hp1 : (p : Int) < (c.pn : Int) := by omega
  have hpb1 : pb < w.heap.size + 1 := by omega
  clear h hprow hp
  by_cases hc0 : c.part p 0 = 0
  · skip
    have Hcore := Lib.hid hc0
    have q0 : (c.part p 0 == 0) = true := by simpa using hc0
    have r0 : (c.part p 0 != 0) = false := by simpa using hc0
    have q1 : (c.part p 0 == 1) = false := by rw [hc0]; rfl
    have r1 : (c.part p 0 != 1) = true := by rw [hc0]; rfl
    rw [hc0] at d0
    generalize hG : spOwn c p = G
    have hG' : anyOf (fun j => c.win0 j 0 == (p : Int)) c.w0n = G := by
      rw [← hG]
      unfold spOwn spIdleAt
      rw [hc0]
      simp [inR]
    have HG := Lib.hid hG'
    clear hG hG' hc0 q0 q1 r0 r1
    simp only [CfgV.cells]
    go_enter Try.func42, Try.ntmps42
    go_wp2_with fail
    go_loopw [6] (fun v wr => ∃ i : Nat, i ≤ c.w0n ∧ v = .int .i64 i ∧ (∀ j, j < i → (fun j => c.win0 j 0 == (p : Int)) j = false) ∧ Keeps [] w wr) (fun v _ => c.w0n - (intOf v).toNat)
    case atStart => exact ⟨0, Nat.zero_le _, rfl, by intro j hj; omega, by (repeat' with_reducible (first | exact Keeps.refl _ _ | assumption | apply Keeps.drew | apply Keeps.drewN | apply Keeps.alloc))⟩
    case round =>
      obtain ⟨i, hi, rfl, hg0, hk⟩ := hrel
      have Hg := Lib.hid hg0
      clear hg0
      have Hkk := Lib.hid hk
      by_cases hlt : i < c.w0n
      · obtain ⟨b, o, hwa, hb, hrow⟩ := Hc.out.wins0.resolve_left (by omega)
        have hi0 : (0 : Int) ≤ (i : Int) := Int.natCast_nonneg _
        have hi1 : (i : Int) < (c.w0n : Int) := by omega
        have c0 : wr.cell? ⟨b, o + i * 3, none⟩ = some (.int .i64 (c.win0 i 0)) := (Keeps.cell hk hb (by simp)).trans (by simpa [i64s] using hrow i hlt 0 (by omega))
        clear hrow
        by_cases hx : c.win0 i 0 = (p : Int)
        · have Hx := Lib.hid hx
          have q2 : (c.win0 i 0 == (p : Int)) = true := by simpa using hx
          clear hx
          go_wp2_with fail
          go_ret
          exact ⟨ret_bool (by rw [← HG.out]; exact (anyOf_true hlt (by simpa using Hx.out)).symm), Keeps.trans Hkk.out (by (repeat' with_reducible (first | exact Keeps.refl _ _ | assumption | apply Keeps.drew | apply Keeps.drewN | apply Keeps.alloc)))⟩
        · have Hx := Lib.hid hx
          have q2 : (c.win0 i 0 == (p : Int)) = false := by simpa using hx
          clear hx
          go_wp2_with fail
          first | (rw [← hpa, ← hwa]; go_roundw) | (rw [← hwa]; go_roundw) | (rw [← hpa]; go_roundw) | go_roundw | (refine ⟨?rel, ?measure⟩)
          case rel =>
            refine ⟨i + 1, by omega, by go_num, ?_, Keeps.trans Hkk.out (by (repeat' with_reducible (first | exact Keeps.refl _ _ | assumption | apply Keeps.drew | apply Keeps.drewN | apply Keeps.alloc)))⟩
            intro j hj
            by_cases ej : j = i
            · rw [ej]; simpa using Hx.out
            · exact Hg.out j (by omega)
          case measure => simp [intOf]; omega
      · go_wp2
        go_ret
        exact ⟨ret_bool (by rw [← HG.out]; exact (anyOf_false fun j hj => Hg.out j (by omega)).symm), Hkk.out⟩
  · by_cases hc1 : c.part p 0 = 1
    · skip
      have Hcore := Lib.hid hc1
      have q1 : (c.part p 0 == 1) = true := by simpa using hc1
      have r1 : (c.part p 0 != 1) = false := by simpa using hc1
      have q0 : (c.part p 0 == 0) = false := by rw [hc1]; rfl
      have r0 : (c.part p 0 != 0) = true := by rw [hc1]; rfl
      rw [hc1] at d0
      generalize hG : spOwn c p = G
      have hG' : anyOf (fun j => c.win1 j 0 == (p : Int)) c.w1n = G := by
        rw [← hG]
        unfold spOwn spIdleAt
        rw [hc1]
        simp [inR]
      have HG := Lib.hid hG'
      clear hG hG' hc1 q0 q1 r0 r1
      simp only [CfgV.cells]
      go_enter Try.func42, Try.ntmps42
      go_wp2_with fail
      go_loopw [6] (fun v wr => ∃ i : Nat, i ≤ c.w1n ∧ v = .int .i64 i ∧ (∀ j, j < i → (fun j => c.win1 j 0 == (p : Int)) j = false) ∧ Keeps [] w wr) (fun v _ => c.w1n - (intOf v).toNat)
      case atStart => exact ⟨0, Nat.zero_le _, rfl, by intro j hj; omega, by (repeat' with_reducible (first | exact Keeps.refl _ _ | assumption | apply Keeps.drew | apply Keeps.drewN | apply Keeps.alloc))⟩
      case round =>
        obtain ⟨i, hi, rfl, hg0, hk⟩ := hrel
        have Hg := Lib.hid hg0
        clear hg0
        have Hkk := Lib.hid hk
        by_cases hlt : i < c.w1n
        · obtain ⟨b, o, hwa, hb, hrow⟩ := Hc.out.wins1.resolve_left (by omega)
          have hi0 : (0 : Int) ≤ (i : Int) := Int.natCast_nonneg _
          have hi1 : (i : Int) < (c.w1n : Int) := by omega
          have c0 : wr.cell? ⟨b, o + i * 3, none⟩ = some (.int .i64 (c.win1 i 0)) := (Keeps.cell hk hb (by simp)).trans (by simpa [i64s] using hrow i hlt 0 (by omega))
          clear hrow
          by_cases hx : c.win1 i 0 = (p : Int)
          · have Hx := Lib.hid hx
            have q2 : (c.win1 i 0 == (p : Int)) = true := by simpa using hx
            clear hx
            go_wp2_with fail
            go_ret
            exact ⟨ret_bool (by rw [← HG.out]; exact (anyOf_true hlt (by simpa using Hx.out)).symm), Keeps.trans Hkk.out (by (repeat' with_reducible (first | exact Keeps.refl _ _ | assumption | apply Keeps.drew | apply Keeps.drewN | apply Keeps.alloc)))⟩
          · have Hx := Lib.hid hx
            have q2 : (c.win1 i 0 == (p : Int)) = false := by simpa using hx
            clear hx
            go_wp2_with fail
            first | (rw [← hpa, ← hwa]; go_roundw) | (rw [← hwa]; go_roundw) | (rw [← hpa]; go_roundw) | go_roundw | (refine ⟨?rel, ?measure⟩)
            case rel =>
              refine ⟨i + 1, by omega, by go_num, ?_, Keeps.trans Hkk.out (by (repeat' with_reducible (first | exact Keeps.refl _ _ | assumption | apply Keeps.drew | apply Keeps.drewN | apply Keeps.alloc)))⟩
              intro j hj
              by_cases ej : j = i
              · rw [ej]; simpa using Hx.out
              · exact Hg.out j (by omega)
            case measure => simp [intOf]; omega
        · go_wp2
          go_ret
          exact ⟨ret_bool (by rw [← HG.out]; exact (anyOf_false fun j hj => Hg.out j (by omega)).symm), Hkk.out⟩
    · have Hcore0 := Lib.hid hc0
      have Hcore1 := Lib.hid hc1
      have q0 : (c.part p 0 == 0) = false := by simpa using hc0
      have r0 : (c.part p 0 != 0) = true := by simpa using hc0
      have q1 : (c.part p 0 == 1) = false := by simpa using hc1
      have r1 : (c.part p 0 != 1) = true := by simpa using hc1
      have hG : spOwn c p = false := by
        unfold spOwn spIdleAt
        have : inR (c.part p 0) 0 1 = false := by simp [inR]; omega
        rw [this]
        rfl
      rw [hG]
      clear hG hc0 hc1
      simp only [CfgV.cells]
      go_enter Try.func42, Try.ntmps42
      go_wp2_with fail
      go_ret
      exact ⟨ret_bool rfl, by (repeat' with_reducible (first | exact Keeps.refl _ _ | assumption | apply Keeps.drew | apply Keeps.drewN | apply Keeps.alloc))⟩

end Go.Proofs.Ytpkjffiajidfcaa

/- Holds of package portholeref07. -/
namespace Go.Proofs.Ytpkjffiajidfcaa
open Go.RowKit


set_option maxRecDepth 100000 in
set_option maxHeartbeats 4000000 in
theorem refHolds_17 (c : CfgV) (w : World) (h : CfgAt w c) :
    Calls Try.prog 33 #[.agg c.cells, .int .i64 17] w (Says (.bool (spRule c 16)) w) := by
  have hpn := h.pn
  have hcn := h.cn
  have Hc := Lib.hid h
  clear h
  generalize hG : spRule c 16 = G
  have HG := Lib.hid (hG : anyOf (fun i => spIdleAt c i) c.pn = G)
  clear hG
  simp only [CfgV.cells]
  go_enter Try.func33, Try.ntmps33
  go_wp2_with fail
  go_loopw [5] (fun v wr => ∃ i : Nat, i ≤ c.pn ∧ v = .int .i64 i ∧ (∀ j, j < i → (fun i => spIdleAt c i) j = false) ∧ Keeps [] (w.alloc (.cells c.cells 31)) wr) (fun v _ => c.pn - (intOf v).toNat)
  case atStart => exact ⟨0, Nat.zero_le _, rfl, by intro j hj; omega, Keeps.refl _ _⟩
  case round =>
    obtain ⟨i, hi, rfl, hg0, hk⟩ := hrel
    have Hg := Lib.hid hg0
    clear hg0
    have hbx : Blk wr w.heap.size c.cells 31 := (Blk.new _ _ _).keep hk (by simp)
    have hbl := hbx.lt
    have hbc := hbx.cell
    have Hk0 := Lib.hid hk
    have Hkk := Lib.hid (Keeps.trans (by (repeat' with_reducible (first | exact Keeps.refl _ _ | assumption | apply Keeps.drew | apply Keeps.drewN | apply Keeps.alloc))) hk : Keeps [] w wr)
    by_cases hlt : i < c.pn
    · obtain ⟨b, o, hpa, hb, hrow⟩ := Hc.out.parts.resolve_left (by omega)
      have hi0 : (0 : Int) ≤ (i : Int) := Int.natCast_nonneg _
      have hi1 : (i : Int) < (c.pn : Int) := by omega
      have hbr : b < wr.heap.size := by have := hk.size; simp at this; omega
      have hk := Hkk.out
      have c0 : wr.cell? ⟨b, o + i * 2, none⟩ = some (.int .i64 (c.part i 0)) := (Keeps.cell hk hb (by simp)).trans (by simpa [i64s] using hrow i hlt 0 (by omega))
      have c1 : wr.cell? ⟨b, o + i * 2 + 1, none⟩ = some (.int .i64 (c.part i 1)) := (Keeps.cell hk hb (by simp)).trans (hrow i hlt 1 (by omega))
      clear hrow hk
      cases hp1 : spOwn c i
      · have P1 := Lib.hid hp1
        go_wp2_with (first | (go_at_call 42; (try rw [← hpa]); (with_reducible refine (refWindow_any c i hlt _ (Hc.out.kept (Keeps.trans Hkk.out (by (repeat' with_reducible (first | exact Keeps.refl _ _ | assumption | apply Keeps.drew | apply Keeps.drewN | apply Keeps.alloc)))))).mono ?_); rintro e w1 ⟨rfl, hk1⟩; rw [hp1]) | (fail))
        go_ret
        exact ⟨ret_bool (by rw [← HG.out]; exact (anyOf_true hlt (by have P1 := P1.out; unfold spOwn at P1; simpa using P1)).symm), Keeps.trans Hkk.out (by (repeat' with_reducible (first | exact Keeps.refl _ _ | assumption | apply Keeps.drew | apply Keeps.drewN | apply Keeps.alloc | refine Keeps.trans ?_ hk1 | refine Keeps.trans ?_ hk2)))⟩
      · have P1 := Lib.hid hp1
        go_wp2_with (first | (go_at_call 42; (try rw [← hpa]); (with_reducible refine (refWindow_any c i hlt _ (Hc.out.kept (Keeps.trans Hkk.out (by (repeat' with_reducible (first | exact Keeps.refl _ _ | assumption | apply Keeps.drew | apply Keeps.drewN | apply Keeps.alloc)))))).mono ?_); rintro e w1 ⟨rfl, hk1⟩; rw [hp1]) | (fail))
        first | (rw [← hpa]; go_roundw) | go_roundw | (refine ⟨?rel, ?measure⟩)
        case rel =>
          refine ⟨i + 1, by omega, by go_num, ?_, Keeps.trans Hk0.out (by (repeat' with_reducible (first | exact Keeps.refl _ _ | assumption | apply Keeps.drew | apply Keeps.drewN | apply Keeps.alloc | refine Keeps.trans ?_ hk1 | refine Keeps.trans ?_ hk2)))⟩
          intro j hj
          by_cases ej : j = i
          · rw [ej]; have P1 := P1.out; unfold spOwn at P1; simpa using P1
          · exact Hg.out j (by omega)
        case measure => simp [intOf]; omega
    · go_wp2
      go_ret
      exact ⟨ret_bool (by rw [← HG.out]; exact (anyOf_false fun j hj => Hg.out j (by omega)).symm), Hkk.out⟩

end Go.Proofs.Ytpkjffiajidfcaa

/- source, before of package portholeref08. -/
namespace Go.Proofs.Ytpkjffiajidfcaa
open Go.RowKit

set_option maxRecDepth 100000 in
theorem refSource_any (x0 x1 x2 x3 x4 x5 x6 : Int) (w : World) (h3 : 0 ≤ x3) (h3' : x3 ≤ 16) (h4 : 0 ≤ x4) (h4' : x4 ≤ 8) :
    Calls Try.prog 27 #[.agg #[.int .i64 x0, .int .i64 x1, .int .i64 x2, .int .i64 x3, .int .i64 x4, .int .i64 x5, .int .u32 x6]] w (Says (.int .i64 (spSized x0 x3 x4)) w) := by
  have k0 : 0 ≤ x4 * x3 := Int.mul_nonneg h4 h3
  have k1 : x4 * x3 ≤ 8 * 16 := Int.mul_le_mul h4' h3' h3 (by omega)
  by_cases hx : x0 = 1
  · have hd : (x0 == 1) = true := by simpa using hx
    have Hx := Lib.hid hx
    clear hx
    go_enter Try.func27, Try.ntmps27
    go_wp2
    go_ret
    exact ⟨ret_i64 (by unfold spSized; rw [if_pos Hx.out]; omega), by (repeat' with_reducible (first | exact Keeps.refl _ _ | assumption | apply Keeps.drew | apply Keeps.drewN | apply Keeps.alloc))⟩
  · have hd : (x0 == 1) = false := by simpa using hx
    have Hx := Lib.hid hx
    clear hx
    go_enter Try.func27, Try.ntmps27
    go_wp2
    go_ret
    exact ⟨ret_i64 (by unfold spSized; rw [if_neg Hx.out, Int.mul_add]; omega), by (repeat' with_reducible (first | exact Keeps.refl _ _ | assumption | apply Keeps.drew | apply Keeps.drewN | apply Keeps.alloc))⟩

set_option maxRecDepth 100000 in
set_option maxHeartbeats 4000000 in
theorem refBefore_any (c : CfgV) (k : Nat) (hkk : k ≤ c.cn) (ha : spAcc c = true) (w : World) (h : CfgAt w c) :
    Calls Try.prog 20 #[.agg c.cells, .int .i64 (k : Int)] w (Says (.int .i64 (spBefore c k)) w) := by
  have hA := accd ha
  have HA := Lib.hid hA
  have Hc := Lib.hid h
  have hpn6 := hA.pn6
  have hcn8 := hA.cn8
  clear h hA ha
  simp only [CfgV.cells]
  go_enter Try.func20, Try.ntmps20
  go_wp2_with fail
  have P0 : Keeps [] w (w.alloc (.cells c.cells 31)) := by (repeat' with_reducible (first | exact Keeps.refl _ _ | assumption | apply Keeps.drew | apply Keeps.drewN | apply Keeps.alloc))
  have Bx : Blk (w.alloc (.cells c.cells 31)) w.heap.size c.cells 31 := Blk.new _ _ _
  simp only [CfgV.cells] at P0 Bx
  generalize hw2 : w.alloc (.cells #[.slice c.pa c.pn c.pc, .slice c.ca c.cn c.cc, .int .i64 c.l0, .slice c.w0a c.w0n c.w0c, .int .i64 c.l1, .slice c.w1a c.w1n c.w1c] 31) = w2 at *
  clear hw2
  have HP0 := Lib.hid P0
  have HBx := Lib.hid Bx
  clear P0 Bx
  go_loopw [5, 6] (fun u v wr => ∃ i : Nat, i ≤ c.pn ∧ v = .int .i64 i ∧ u = .int .i64 (spPriv c i) ∧ Keeps [] w2 wr) (fun _ v _ => c.pn - (intOf v).toNat)
  case atStart => exact ⟨0, Nat.zero_le _, rfl, rfl, Keeps.refl _ _⟩
  case round =>
    obtain ⟨i, hi, rfl, rfl, hk2⟩ := hrel
    have hk : Keeps [] w wr := HP0.out.trans hk2
    have hbx := HBx.out.keep hk2 (by simp)
    have hbc := hbx.cell
    have hbl := hbx.lt
    have Hk2 := Lib.hid hk2
    clear hk2
    by_cases hlt : i < c.pn
    · obtain ⟨b, o, hpa, hb, hrow⟩ := Hc.out.parts.resolve_left (by omega)
      have hi0 : (0 : Int) ≤ (i : Int) := Int.natCast_nonneg _
      have hi1 : (i : Int) < (c.pn : Int) := by omega
      have c1 : wr.cell? ⟨b, o + i * 2 + 1, none⟩ = some (.int .i64 (c.part i 1)) := (Keeps.cell hk hb (by simp)).trans (hrow i hlt 1 (by omega))
      have hpv := HA.out.priv i hlt
      have hpb := spPriv_bd HA.out (i := i) (by omega)
      obtain ⟨hpv0, hpv1⟩ := hpv
      obtain ⟨hpb0, hpb1⟩ := hpb
      clear hrow hk
      go_wp2_with fail
      first | (rw [← hpa]; go_roundw) | go_roundw | (refine ⟨?rel, ?measure⟩)
      case rel => exact ⟨i + 1, by omega, by go_num, rfl, Hk2.out⟩
      case measure => simp [intOf]; omega
    · obtain rfl : i = c.pn := by omega
      have P1 : Keeps [] w wr := hk
      have HP1 := Lib.hid P1
      have HBy := Lib.hid hbx
      have e0 : spPriv c c.pn = spBefore c 0 := by simp [spBefore, sumTo]
      go_wp2_with fail
      try rw [e0]
      clear e0 P1 hk hbx hbc hbl HBx HP0 Hk2
      generalize wr = w3 at *
      go_loopw [5, 7] (fun u v wr => ∃ i : Nat, i ≤ k ∧ v = .int .i64 i ∧ u = .int .i64 (spBefore c i) ∧ Keeps [] w3 wr) (fun _ v _ => k - (intOf v).toNat)
      case atStart => exact ⟨0, Nat.zero_le _, rfl, (by first | rfl | (congr 1; simp [spBefore, sumTo])), Keeps.refl _ _⟩
      case round =>
        obtain ⟨i, hi, rfl, rfl, hk2⟩ := hrel
        have hk : Keeps [] w wr := HP1.out.trans hk2
        have hbx := HBy.out.keep hk2 (by simp)
        have hbc := hbx.cell
        have hbl := hbx.lt
        have Hk2 := Lib.hid hk2
        have Hk := Lib.hid hk
        clear hk2
        by_cases hltk : i < k
        · have hlt : i < c.cn := by omega
          obtain ⟨b, o, hpa, hb, hrow⟩ := Hc.out.chans.resolve_left (by omega)
          have hi0 : (0 : Int) ≤ (i : Int) := Int.natCast_nonneg _
          have hi1 : (i : Int) < (c.cn : Int) := by omega
          have hi2 : (i : Int) < (k : Int) := by omega
          have c0 : wr.cell? ⟨b, o + i * 7, none⟩ = some (.int .i64 (c.chan i 0)) := (Keeps.cell hk hb (by simp)).trans (by simpa [chs] using hrow i hlt 0 (by omega))
          have c1 : wr.cell? ⟨b, o + i * 7 + 1, none⟩ = some (.int .i64 (c.chan i 1)) := (Keeps.cell hk hb (by simp)).trans (by simpa [chs] using hrow i hlt 1 (by omega))
          have c2 : wr.cell? ⟨b, o + i * 7 + 2, none⟩ = some (.int .i64 (c.chan i 2)) := (Keeps.cell hk hb (by simp)).trans (by simpa [chs] using hrow i hlt 2 (by omega))
          have c3 : wr.cell? ⟨b, o + i * 7 + 3, none⟩ = some (.int .i64 (c.chan i 3)) := (Keeps.cell hk hb (by simp)).trans (by simpa [chs] using hrow i hlt 3 (by omega))
          have c4 : wr.cell? ⟨b, o + i * 7 + 4, none⟩ = some (.int .i64 (c.chan i 4)) := (Keeps.cell hk hb (by simp)).trans (by simpa [chs] using hrow i hlt 4 (by omega))
          have c5 : wr.cell? ⟨b, o + i * 7 + 5, none⟩ = some (.int .i64 (c.chan i 5)) := (Keeps.cell hk hb (by simp)).trans (by simpa [chs] using hrow i hlt 5 (by omega))
          have c6 : wr.cell? ⟨b, o + i * 7 + 6, none⟩ = some (.int .u32 (c.chan i 6)) := (Keeps.cell hk hb (by simp)).trans (by simpa [chs] using hrow i hlt 6 (by omega))
          have hwd := HA.out.words i hlt
          have hdp := HA.out.deep i hlt
          have hsz : 0 ≤ spSized (c.chan i 0) (c.chan i 3) (c.chan i 4) ∧ spSized (c.chan i 0) (c.chan i 3) (c.chan i 4) ≤ 137 := spSz_bd HA.out hlt
          have hpb := spBefore_bd HA.out (k := i) (by omega)
          obtain ⟨hpb0, hpb1⟩ := hpb
          obtain ⟨hsz0, hsz1⟩ := hsz
          clear hrow hk
          go_wp2_with (first | (go_at_call 27; (with_reducible refine (refSource_any _ _ _ _ _ _ _ _ (by omega) hwd.2 hdp.1 hdp.2).mono ?_); rintro e w4 ⟨rfl, hk1⟩) | (fail))
          first | (rw [← hpa]; go_roundw) | go_roundw | (refine ⟨?rel, ?measure⟩)
          case rel =>
            have e : spBefore c (i + 1) = spBefore c i + spSized (c.chan i 0) (c.chan i 3) (c.chan i 4) + 1 := by simp only [spBefore, sumTo, spSz]; omega
            refine ⟨i + 1, by omega, by go_num, by rw [e], Keeps.trans Hk2.out (by (repeat' with_reducible (first | exact Keeps.refl _ _ | assumption | apply Keeps.drew | apply Keeps.drewN | apply Keeps.alloc | refine Keeps.trans ?_ hk1 | refine Keeps.trans ?_ hk2)))⟩
          case measure => simp [intOf]; omega
        · obtain rfl : i = k := by omega
          have hi2 : ¬ (i : Int) < (i : Int) := by omega
          go_wp2
          go_ret
          exact ⟨ret_i64 rfl, Hk.out⟩

end Go.Proofs.Ytpkjffiajidfcaa

/- All, Accepts of package portholeref07; Size of portholeref08. -/
namespace Go.Proofs.Ytpkjffiajidfcaa
open Go.RowKit

theorem refHolds_any (c : CfgV) (k : Nat) (hk : k < 17) (w : World) (h : CfgAt w c) :
    Calls Try.prog 33 #[.agg c.cells, .int .i64 ((k : Int) + 1)] w (Says (.bool (spRule c k)) w) := by
  match k, hk with
  | 0, _ => exact refHolds_1 c w h
  | 1, _ => exact refHolds_2 c w h
  | 2, _ => exact refHolds_3 c w h
  | 3, _ => exact refHolds_4 c w h
  | 4, _ => exact refHolds_5 c w h
  | 5, _ => exact refHolds_6 c w h
  | 6, _ => exact refHolds_7 c w h
  | 7, _ => exact refHolds_8 c w h
  | 8, _ => exact refHolds_9 c w h
  | 9, _ => exact refHolds_10 c w h
  | 10, _ => exact refHolds_11 c w h
  | 11, _ => exact refHolds_12 c w h
  | 12, _ => exact refHolds_13 c w h
  | 13, _ => exact refHolds_14 c w h
  | 14, _ => exact refHolds_15 c w h
  | 15, _ => exact refHolds_16 c w h
  | 16, _ => exact refHolds_17 c w h
  | n + 17, hh => exact absurd hh (by omega)

theorem info_int : (Try.prog.info? 3).map (fun i => (i.zero, i.size, i.bytes)) = some (some (.int .i64 0), 1, 8) := by kernel_rfl

/-- The row of numbers that All has by now. -/
def AllIs (w : World) (v : Value) (n : Nat) : Prop := ∃ a cap xs, v = .slice a n cap ∧ w.ownsRow 0 3 1 (.slice a n cap) n xs ∧ ∀ x, (Value.slice a n cap).ownBlock = some x → True

theorem ownsRow_kept {l : List Nat} {w w' : World} {base : Nat} {e : TypeId} {size : Nat} {v : Value} {n : Nat} {xs : List Value} (h : w.ownsRow base e size v n xs) (hk : Keeps l w w') (hl : ∀ x, v.ownBlock = some x → x ∉ l) : w'.ownsRow base e size v n xs := by
  refine ⟨h.1, ?_⟩
  rcases h.2 with hx | ⟨g, cap, cur, hv, hb, hg, hr⟩
  · exact .inl hx
  · exact .inr ⟨g, cap, cur, hv, hb, (hk.block g (lt_of_block hg) (hl g (by rw [hv]; rfl))).trans hg, hr⟩

def AllPost (c : CfgV) (w : World) (e : Ending) (w' : World) : Prop :=
  ∃ a cap, e = .returned (.slice a (defs c 17).length cap) ∧ Keeps [] w w'

set_option maxRecDepth 100000 in
set_option maxHeartbeats 4000000 in
theorem refAll_any (c : CfgV) (w : World) (h : CfgAt w c) :
    Calls Try.prog 26 #[.agg c.cells] w (AllPost c w) := by
  obtain ⟨i0, hi, hz0, hz1, hz2⟩ := info_parts info_int
  have Hi := Lib.hid hi
  have Hc := Lib.hid h
  clear h hi
  simp only [CfgV.cells]
  go_enter Try.func26, Try.ntmps26
  go_wp2_with fail
  have P0 : Keeps [] w (w.alloc (.cells c.cells 31)) := by (repeat' with_reducible (first | exact Keeps.refl _ _ | assumption | apply Keeps.drew | apply Keeps.drewN | apply Keeps.alloc))
  have Bx : Blk (w.alloc (.cells c.cells 31)) w.heap.size c.cells 31 := Blk.new _ _ _
  simp only [CfgV.cells] at P0 Bx
  generalize hw2 : w.alloc (.cells #[.slice c.pa c.pn c.pc, .slice c.ca c.cn c.cc, .int .i64 c.l0, .slice c.w0a c.w0n c.w0c, .int .i64 c.l1, .slice c.w1a c.w1n c.w1c] 31) = w2 at *
  clear hw2
  have hs2 : w.heap.size < w2.heap.size := Bx.lt
  have HBx := Lib.hid Bx
  go_loopw [3, 4] (fun u v wr => ∃ k : Nat, k ≤ 17 ∧ v = .int .i64 ((k : Int) + 1) ∧ (∃ a cap xs, u = .slice a (defs c k).length cap ∧ wr.ownsRow 0 3 1 (.slice a (defs c k).length cap) (defs c k).length xs ∧ ∀ x, (Value.slice a (defs c k).length cap).ownBlock = some x → w2.heap.size ≤ x) ∧ Keeps [] w2 wr) (fun _ v _ => 20 - (intOf v).toNat)
  case atStart => exact ⟨0, by omega, rfl, ⟨none, 0, [], rfl, ⟨rfl, .inl ⟨rfl, rfl⟩⟩, by intro x hx; cases hx⟩, Keeps.refl _ _⟩
  case round =>
    obtain ⟨k, hk17, rfl, ⟨a, cap, xs, rfl, hown, hbk⟩, hk2⟩ := hrel
    have hk : Keeps [] w wr := P0.trans hk2
    have hbx := HBx.out.keep hk2 (by simp)
    have hbc := hbx.cell
    have hbl := hbx.lt
    have Hk2 := Lib.hid hk2
    have Hk := Lib.hid hk
    have Hown := Lib.hid hown
    have Hbk := Lib.hid hbk
    have hn := defs_len c k
    clear hk2 hown hbk
    by_cases hlt : k < 17
    · have hi1 : (k : Int) + 1 ≤ 17 := by omega
      cases hr : spRule c k
      · have ed := defs_succ_no hr
        have Ed := Lib.hid ed
        clear ed
        generalize hN : (defs c k).length = N at *
        have HN := Lib.hid hN
        clear hk hN
        go_wp2_with (first | (go_at_call 33; (with_reducible refine (refHolds_any c k hlt _ (Hc.out.kept (Keeps.trans Hk.out (by (repeat' with_reducible (first | exact Keeps.refl _ _ | assumption | apply Keeps.drew | apply Keeps.drewN | apply Keeps.alloc)))))).mono ?_); rintro e w3 ⟨rfl, hk1⟩; rw [hr]) | (fail))
        go_roundw
        case rel =>
          refine ⟨k + 1, by omega, by go_num, ⟨a, cap, xs, by rw [Ed.out, HN.out], ?_, by rw [Ed.out, HN.out]; exact Hbk.out⟩, Keeps.trans Hk2.out (by (repeat' with_reducible (first | exact Keeps.refl _ _ | assumption | apply Keeps.drew | apply Keeps.drewN | apply Keeps.alloc | refine Keeps.trans ?_ hk1 | refine Keeps.trans ?_ hk2)))⟩
          rw [Ed.out, HN.out]
          exact ownsRow_kept Hown.out (l := []) (by (repeat' with_reducible (first | exact Keeps.refl _ _ | assumption | apply Keeps.drew | apply Keeps.drewN | apply Keeps.alloc | refine Keeps.trans ?_ hk1 | refine Keeps.trans ?_ hk2))) (by simp)
        case measure => simp [intOf]; omega
      · have ed := defs_succ_yes hr
        have Ed := Lib.hid ed
        clear ed
        generalize hN : (defs c k).length = N at *
        have HN := Lib.hid hN
        clear hk hN
        go_wp2_with (first | (go_at_call 33; (with_reducible refine (refHolds_any c k hlt _ (Hc.out.kept (Keeps.trans Hk.out (by (repeat' with_reducible (first | exact Keeps.refl _ _ | assumption | apply Keeps.drew | apply Keeps.drewN | apply Keeps.alloc)))))).mono ?_); rintro e w3 ⟨rfl, hk1⟩; rw [hr]; have hs3 : wr.heap.size ≤ w3.heap.size := hk1.size) | (at_builtin; refine wpList_append_lies _ (by rfl) _ _ _ (by rfl) 0 3 i0 _ 1 8 Try.underlying81 Hi.out hz0 hz1 hz2 rfl (by omega) (.slice a N cap) N xs (by rfl) (World.ownsRow.alloc (ownsRow_kept Hown.out (l := []) (by (repeat' with_reducible (first | exact Keeps.refl _ _ | assumption | apply Keeps.drew | apply Keeps.drewN | apply Keeps.alloc | refine Keeps.trans ?_ hk1 | refine Keeps.trans ?_ hk2))) (by simp)) _) ⟨w3.heap.size, 0, none⟩ 1 1 [.int .i64 ((k : Int) + 1)] (by rfl) (by rfl) (by exact news1 (Blk.new _ _ _)) (by simp [Value.oneCell']) (by omega) (by unfold maxLen; omega) (by omega) (by omega) _ rfl ?hgo) | (fail))
        case hgo =>
          intro g cap' w4 hown4 hgrow hat hlt4
          have hk4 : Keeps [] w2 w4 := by
            refine Keeps.fresh (l := (Value.slice a N cap).ownBlock.toList) (W := wr) Hk2.out (Keeps.grown (Keeps.mono (l := []) (by (repeat' with_reducible (first | exact Keeps.refl _ _ | assumption | apply Keeps.drew | apply Keeps.drewN | apply Keeps.alloc | refine Keeps.trans ?_ hk1 | refine Keeps.trans ?_ hk2))) (by simp)) hgrow (by intro z hz _; rw [hz]; simp)) ?_
            intro z hz
            exact Hbk.out z (by simpa using hz)
          go_wp2_with fail
          go_roundw
          case rel =>
            refine ⟨k + 1, by omega, by go_num, ⟨some ⟨g, 0, none⟩, cap', xs ++ [.int .i64 ((k : Int) + 1)], by rw [Ed.out, List.length_append, HN.out]; rfl, by rw [Ed.out, List.length_append, HN.out]; exact hown4, ?_⟩, hk4⟩
            intro z hz
            rcases hat with hat | hat
            · simp [Value.ownBlock] at hz; subst hz; exact Hbk.out _ hat
            · simp [Value.ownBlock] at hz
              have := Hk2.out.size
              (try simp at hat)
              omega
          case measure => simp [intOf]; omega
    · have hi1 : ¬ (k : Int) + 1 ≤ 17 := by omega
      have e17 : (defs c k).length = (defs c 17).length := by
        have : k = 17 := by omega
        rw [this]
      generalize hN : (defs c k).length = N at *
      have Hn := Lib.hid e17
      clear e17 hN
      go_wp2_with fail
      go_ret
      exact ⟨a, cap, (by rw [← Hn.out]; rfl), Hk.out⟩

set_option maxRecDepth 100000 in
theorem refAccepts_any (c : CfgV) (w : World) (h : CfgAt w c) :
    Calls Try.prog 19 #[.agg c.cells] w (Says (.bool (spAcc c)) w) := by
  have Hc := Lib.hid h
  have hn := defs_len c 17
  have e : spAcc c = (((defs c 17).length : Int) == 0) := by
    unfold spAcc
    cases defs c 17 <;> simp
    omega
  rw [e]
  clear h e
  simp only [CfgV.cells]
  go_enter Try.func19, Try.ntmps19
  go_wp2_with (first | (go_at_call 26; (with_reducible refine (refAll_any c _ (Hc.out.kept (by (repeat' with_reducible (first | exact Keeps.refl _ _ | assumption | apply Keeps.drew | apply Keeps.drewN | apply Keeps.alloc))))).mono ?_); rintro e w1 ⟨a, cap, rfl, hk1⟩) | (fail))
  go_ret
  exact ⟨ret_bool rfl, by (repeat' with_reducible (first | exact Keeps.refl _ _ | assumption | apply Keeps.drew | apply Keeps.drewN | apply Keeps.alloc | refine Keeps.trans ?_ hk1 | refine Keeps.trans ?_ hk2))⟩

set_option maxRecDepth 100000 in
theorem refSize_any (c : CfgV) (ha : spAcc c = true) (w : World) (h : CfgAt w c) :
    Calls Try.prog 10 #[.agg c.cells] w (Says (.int .i64 (spBefore c c.cn)) w) := by
  have Hc := Lib.hid h
  have hcn := h.cn
  clear h
  simp only [CfgV.cells]
  go_enter Try.func10, Try.ntmps10
  go_wp2_with (first | (go_at_call 19; (with_reducible refine (refAccepts_any c _ (Hc.out.kept (by (repeat' with_reducible (first | exact Keeps.refl _ _ | assumption | apply Keeps.drew | apply Keeps.drewN | apply Keeps.alloc))))).mono ?_); rintro e w1 ⟨rfl, hk1⟩; rw [ha]; have B1 : Blk w1 w.heap.size c.cells 31 := Blk.keep (l := []) (by (repeat' (first | with_reducible (first | assumption | apply Blk.drew | (refine Blk.newAt ?_; first | rfl | (simp; done)) | apply Blk.alloc)))) hk1 (by simp); have C1 := B1.cell) | (go_at_call 20; (with_reducible refine (refBefore_any c c.cn (Nat.le_refl _) ha _ (Hc.out.kept (by (repeat' with_reducible (first | exact Keeps.refl _ _ | assumption | apply Keeps.drew | apply Keeps.drewN | apply Keeps.alloc | refine Keeps.trans ?_ hk1 | refine Keeps.trans ?_ hk2))))).mono ?_); rintro e w2 ⟨rfl, hk2⟩) | (fail))
  go_ret
  exact ⟨ret_i64 rfl, by (repeat' with_reducible (first | exact Keeps.refl _ _ | assumption | apply Keeps.drew | apply Keeps.drewN | apply Keeps.alloc | refine Keeps.trans ?_ hk1 | refine Keeps.trans ?_ hk2))⟩

end Go.Proofs.Ytpkjffiajidfcaa

/- wakes of the law: its examples hold. -/
namespace Go.Proofs.Ytpkjffiajidfcaa
open Go.RowKit

theorem two_b0 (pb cb f0 f1 : Nat) (wds per : Int) : spBefore (twoC pb cb f0 f1 wds per) 0 = 1 := by
  simp [spBefore, spPriv, sumTo]
theorem two_sz (pb cb f0 f1 : Nat) (wds per : Int) : spSz (twoC pb cb f0 f1 wds per) 0 = 11 + 4 * wds := by
  simp [spSz, spSized]; omega
theorem two_b1 (pb cb f0 f1 : Nat) (wds per : Int) : spBefore (twoC pb cb f0 f1 wds per) 1 = 13 + 4 * wds := by
  have h := two_sz pb cb f0 f1 wds per
  have h0 := two_b0 pb cb f0 f1 wds per
  simp only [spBefore, sumTo] at h0 ⊢
  omega

theorem rd_zero (n i : Nat) : rd (List.replicate n 0) i = 0 := by
  unfold rd
  rw [List.getD_eq_getElem?_getD, List.getElem?_replicate]
  split <;> rfl

theorem MsOk.zero (n : Nat) : MsOk (List.replicate n 0) := fun i => by rw [rd_zero]; omega

theorem MsOk.set {ms : List Int} (h : MsOk ms) {v : Int} (h0 : 0 ≤ v) (h1 : v ≤ 4294967295) (k : Nat) : MsOk (ms.set k v) := fun i => by
  unfold rd
  rw [List.getD_eq_getElem?_getD, List.getElem?_set]
  split
  · split
    · exact ⟨h0, h1⟩
    · exact ⟨Int.le_refl _, by decide⟩
  · rw [← List.getD_eq_getElem?_getD]; exact h i

/-- The states of the example's read and write. -/
def wkR (i : Nat) : RSt := ⟨if i ≤ 3 then i else 6, 0, 0, 0, 0, []⟩

theorem wkR_step (i : Nat) (hi : i ≤ 3) : rstep 1 16 1 (wkR i) (List.replicate 17 0) = (wkR (i + 1), List.replicate 17 0) := by
  match i, hi with
  | 0, _ => rfl
  | 1, _ => rfl
  | 2, _ => rfl
  | 3, _ => rfl
  | i + 4, h => omega

theorem wkR_did (i : Nat) (hi : i < 3) (da : Option Addr) (dc : Nat) : rdid 1 1 3 (wkR i) (List.replicate 17 0) 0 da dc = {} := by
  match i, hi with
  | 0, _ => rfl
  | 1, _ => rfl
  | 2, _ => rfl
  | i + 3, h => omega

theorem wkR_last (da : Option Addr) (dc : Nat) : rdid 1 1 3 (wkR 3) (List.replicate 17 0) 0 da dc = { done := true, code := 1, buffer := 1 } := rfl

theorem wkR_ok (i : Nat) : ROk 1 (wkR i) := by
  have h : (wkR i).stage ≠ 5 := by simp only [wkR]; split <;> omega
  exact ⟨Int.le_refl 0, (by show (0 : Int) ≤ 1; decide), Int.le_refl 0, (by show (0 : Int) ≤ 1; decide), fun e => absurd e h, fun e => absurd e h, Int.le_refl 0, (by show (0 : Int) ≤ 4294967295; decide)⟩

def wkW : Nat → WSt × List Int
  | 0 => (⟨0, 0, 0, 0, false⟩, List.replicate 17 0)
  | i + 1 => let r := wstep 1 16 1 1 [9] (wkW i).1 (wkW i).2 0; (r.2.1, r.2.2)

theorem wkW_stage (i : Nat) (hi : i ≤ 7) : (wkW i).1.stage = i := by
  match i, hi with
  | 0, _ => rfl
  | 1, _ => rfl
  | 2, _ => rfl
  | 3, _ => rfl
  | 4, _ => rfl
  | 5, _ => rfl
  | 6, _ => rfl
  | 7, _ => rfl
  | i + 8, h => omega

theorem wkW_ok (i : Nat) (hi : i ≤ 6) : WOk 1 1 (wkW i).1 ∧ MsOk (wkW i).2 ∧ (wkW i).2.length = 17 := by
  have hz := MsOk.zero 17
  match i, hi with
  | 0, _ => exact ⟨⟨by decide, by decide, by decide, by decide, by decide, by decide, by decide⟩, hz, rfl⟩
  | 1, _ => exact ⟨⟨by decide, by decide, by decide, by decide, by decide, by decide, by decide⟩, hz, rfl⟩
  | 2, _ => exact ⟨⟨by decide, by decide, by decide, by decide, by decide, by decide, by decide⟩, hz, rfl⟩
  | 3, _ => exact ⟨⟨by decide, by decide, by decide, by decide, by decide, by decide, by decide⟩, hz.set (by decide) (by decide) _, rfl⟩
  | 4, _ => exact ⟨⟨by decide, by decide, by decide, by decide, by decide, by decide, by decide⟩, (hz.set (by decide) (by decide) _).set (by decide) (by decide) _, rfl⟩
  | 5, _ => exact ⟨⟨by decide, by decide, by decide, by decide, by decide, by decide, by decide⟩, ((hz.set (by decide) (by decide) _).set (by decide) (by decide) _).set (by decide) (by decide) _, rfl⟩
  | 6, _ => exact ⟨⟨by decide, by decide, by decide, by decide, by decide, by decide, by decide⟩, (((hz.set (by decide) (by decide) _).set (by decide) (by decide) _).set (by decide) (by decide) _).set (by decide) (by decide) _, rfl⟩
  | i + 7, h => omega

theorem wkW_geo (i : Nat) (hi : i ≤ 6) : Geo 1 16 1 (wkW i).2 := by
  have h := (wkW_ok i hi).2.2
  exact ⟨by decide, by decide, by rw [h]; decide, by decide, by decide, by rw [h]; decide⟩

theorem wkW_not (i : Nat) (hi : i < 6) : (wstep 1 16 1 1 [9] (wkW i).1 (wkW i).2 0).1.done = false := by
  match i, hi with
  | 0, _ => rfl
  | 1, _ => rfl
  | 2, _ => rfl
  | 3, _ => rfl
  | 4, _ => rfl
  | 5, _ => rfl
  | i + 6, h => omega

theorem wkW_done : (wstep 1 16 1 1 [9] (wkW 6).1 (wkW 6).2 0).1.done = true := rfl


theorem New_at (n : Nat) (z : Int) (hz : z = (n : Int)) (w : World) (hn : n ≤ 65536) : Calls Try.prog 9 #[.int .i64 z] w (NewPost n w) := hz ▸ New_any n w hn

theorem NewReader_at (c : CfgV) (k : Nat) (z : Int) (hz : z = (k : Int)) (hk : k < c.cn) (ha : spAcc c = true) (w : World) (h : CfgAt w c) :
    Calls Try.prog 15 #[.agg c.cells, .int .i64 z] w (ReaderPost c k w) := hz ▸ NewReader_any c k hk ha w h

theorem NewWriter_at (c : CfgV) (k n cp ab ao : Nat) (xs : List Int) (z : Int) (hz : z = (k : Int)) (hk : k < c.cn) (ha : spAcc c = true) (w : World) (h : CfgAt w c) (hx : ∀ j u, (xs.map (Value.int .u32))[j]? = some u → w.cell? ((⟨ab, ao, none⟩ : Addr).add j) = some u) (hl : xs.length = n) (hn0 : 0 < n) (hn : n ≤ 100) (hab : ab < w.heap.size) :
    Calls Try.prog 13 #[.agg c.cells, .int .i64 z, .slice (some ⟨ab, ao, none⟩) n cp] w (WriterPost c k n xs w) := hz ▸ NewWriter_any c k n cp ab ao xs hk ha w h hx hl hn0 hn hab

theorem did_field (d : DidV) (W : World) : (Instr.field 53 (.agg d.cells) 0).run Try.prog W = .ok (.bool d.done) W := by kernel_rfl

set_option maxRecDepth 100000 in
set_option maxHeartbeats 4000000 in
theorem wakes_any (w : World) : Calls Try.prog 7 #[] w (Says (.bool true) w) := by
  have hfd := did_field
  go_enter Try.func7, Try.ntmps7
  go_wp2_with (first | (go_at_call 8; (with_reducible refine (two_any 1 3 _ (by omega) (by omega) (by omega) (by omega)).mono ?_); rintro e w1 ⟨pb, cb, f0, f1, rfl, hk1, hC1, hbl1⟩; have hacc := two_acc pb cb f0 f1 1 3 (by omega) (by omega) (by omega) (by omega); have HC1 := Lib.hid hC1; clear hC1; have HK1 := Lib.hid hk1; clear hk1; simp only [CfgV.cells]) | (go_at_call 10; (with_reducible refine (refSize_any (twoC pb cb f0 f1 1 3) hacc _ (HC1.out.kept (by (repeat' with_reducible (first | exact Keeps.refl _ _ | assumption | apply Keeps.drew | apply Keeps.drewN | apply Keeps.alloc))))).mono ?_); rintro e w2 ⟨rfl, hk2⟩; rw [two_b1]; have B1 : Blk w2 w1.heap.size (twoC pb cb f0 f1 1 3).cells 31 := Blk.keep (l := []) (by (repeat' (first | with_reducible (first | assumption | apply Blk.drew | (refine Blk.newAt ?_; first | rfl | (simp; done)) | apply Blk.alloc)))) hk2 (by simp); have HB1 := Lib.hid B1; clear B1) | (go_at_call 9; (with_reducible refine (New_at 17 _ (by omega) _ (by omega)).mono ?_); rintro e w3 ⟨bm, bw, rfl, hk3, hbm, hbw, hM3⟩; have B3 := HB1.out.keep hk3 (by simp); have C3 := B3.cell; have L3 := B3.lt; have HB3 := Lib.hid B3; clear B3; have HC3 := Lib.hid (HC1.out.kept (Keeps.trans (Keeps.trans (by (repeat' with_reducible (first | exact Keeps.refl _ _ | assumption | apply Keeps.drew | apply Keeps.drewN | apply Keeps.alloc))) hk2) hk3)); have HM3 := Lib.hid hM3; clear hM3; have HK3 := Lib.hid (Keeps.trans HK1.out (Keeps.trans (Keeps.trans (by (repeat' with_reducible (first | exact Keeps.refl _ _ | assumption | apply Keeps.drew | apply Keeps.drewN | apply Keeps.alloc))) hk2) hk3) : Keeps [] w w3)) | (go_at_call 15; (with_reducible refine (NewReader_at (twoC pb cb f0 f1 1 3) 0 _ (by simp) (by simp) hacc _ HC3.out).mono ?_); rintro e w4 ⟨rb, rfl, hk4, hrb, hR4⟩; have HR4 := Lib.hid hR4; clear hR4; have HC4 := Lib.hid (HC3.out.kept hk4); have HB4 := Lib.hid (HB3.out.keep hk4 (by simp)); have C4 := HB4.out.cell; have L4 := HB4.out.lt) | (go_at_call 13; (with_reducible refine (NewWriter_at (twoC pb cb f0 f1 1 3) 0 1 1 _ 0 [9] _ ?_ ?_ hacc _ ?_ ?_ ?_ ?_ ?_ ?_).mono ?_); (simp); (simp); (exact HC4.out.kept (by (repeat' with_reducible (first | exact Keeps.refl _ _ | assumption | apply Keeps.drew | apply Keeps.drewN | apply Keeps.alloc)))); (exact news1 (t := 41) (by (repeat' (first | with_reducible (first | assumption | apply Blk.drew | (refine Blk.newAt ?_; first | rfl | (simp; done)) | apply Blk.alloc))))); (rfl); (omega); (omega); (simp); rintro e w5 ⟨wb, wbd, wcap, dv, rfl, hk5, hwb, hwbd, hne5, hW5, hdv5, hdx5⟩; have HW5 := Lib.hid (And.intro hW5 (And.intro hdv5 hdx5)); clear hW5 hdv5 hdx5) | (fail))
  have HK5 := Lib.hid (Keeps.trans HK3.out (Keeps.trans hk4 (Keeps.trans (by (repeat' with_reducible (first | exact Keeps.refl _ _ | assumption | apply Keeps.drew | apply Keeps.drewN | apply Keeps.alloc))) hk5)) : Keeps [] w w5)
  have hs3 := HK3.out.size
  have hs4 := hk4.size
  have hs5 : w4.heap.size ≤ w5.heap.size := (Keeps.trans (a := w4) (by (repeat' with_reducible (first | exact Keeps.refl _ _ | assumption | apply Keeps.drew | apply Keeps.drewN | apply Keeps.alloc))) hk5).size
  have hwb4 : w4.heap.size ≤ wb := by simp at hwb; omega
  have hwbd4 : w4.heap.size ≤ wbd := by simp at hwbd; omega
  have hm1 := HM3.out.hm.lt
  have hm2 := HM3.out.hw.lt
  have hrl := HR4.out.lt
  have hMM := HM3.out.ne
  have HM5 := Lib.hid ((HM3.out.keep hk4 (by simp) (by simp)).keep (Keeps.trans (by (repeat' with_reducible (first | exact Keeps.refl _ _ | assumption | apply Keeps.drew | apply Keeps.drewN | apply Keeps.alloc))) hk5) (by simp) (by simp))
  have HR5 : Hid (RdAt w5 rb none 0 1 16 1 3 (wkR 0)) := Lib.hid ⟨by
    have h := HR4.out.keep (Keeps.trans (a := w4) (by (repeat' with_reducible (first | exact Keeps.refl _ _ | assumption | apply Keeps.drew | apply Keeps.drewN | apply Keeps.alloc))) hk5) (by simp)
    rw [two_b0, two_sz] at h
    exact h, ⟨rfl, .inl ⟨rfl, rfl⟩⟩⟩
  have HW5' : Hid (WrAt w5 wb wbd 1 wcap 1 16 1 3 [9] (wkW 0).1) := Lib.hid ⟨by
    have h := HW5.out.1
    rw [two_b0, two_sz] at h
    exact h, ⟨dv, HW5.out.2.1, HW5.out.2.2⟩, hne5⟩
  have hb5 : w.heap.size ≤ bm ∧ w.heap.size ≤ bw ∧ w.heap.size ≤ rb ∧ w.heap.size ≤ wb ∧ w.heap.size ≤ wbd := by
    have h1 := HK1.out.size
    have h2 := hk2.size
    simp at h2
    omega
  have Hb5 := Lib.hid hb5
  have hN : rb ≠ bm ∧ rb ≠ bw ∧ wb ≠ bm ∧ wb ≠ bw ∧ wbd ≠ bm ∧ wbd ≠ bw ∧ wb ≠ rb ∧ wbd ≠ rb ∧ bm < w5.heap.size ∧ bw < w5.heap.size ∧ rb < w5.heap.size ∧ wb < w5.heap.size ∧ wbd < w5.heap.size := by
    have h1 := HW5.out.1.lt
    have h2 := HW5.out.2.1.lt
    omega
  have HN := Lib.hid hN
  clear hN
  have HG := Lib.hid (⟨by decide, by decide, by decide, by decide, by decide, by decide⟩ : Geo 1 16 1 (List.replicate 17 0))
  clear hb5 hk2 hk3 hk4 hk5 C3 C4 L3 L4 HB3 HB4 HC1 HC3 HC4 HK1 HK3 HM3 HR4 HW5 HB1 hs3 hs4 hs5 hbm hbw hrb hwb hwbd
  go_loopw [31] (fun v wr => ∃ i : Nat, i ≤ 3 ∧ v = .int .i64 i ∧ ∃ da dc, RdAt wr rb da dc 1 16 1 3 (wkR i) ∧ MemAt wr bm bw (List.replicate 17 0) ∧ WrAt wr wb wbd 1 wcap 1 16 1 3 [9] (wkW 0).1 ∧ Keeps [] w wr ∧ w5.heap.size ≤ wr.heap.size ∧ ∀ x, (Value.slice da 0 dc).ownBlock = some x → w5.heap.size ≤ x) (fun v _ => 3 - (intOf v).toNat)
  case atStart => exact ⟨0, by omega, rfl, none, 0, HR5.out, HM5.out, HW5'.out, HK5.out, Nat.le_refl _, by intro x hx; cases hx⟩
  case round =>
    obtain ⟨i, hi, rfl, da, dc, hR, hM, hW, hK, hS, hO⟩ := hrel
    have HRi := Lib.hid hR
    have HMi := Lib.hid hM
    have HWi := Lib.hid hW
    have HKi := Lib.hid hK
    have HOi := Lib.hid hO
    clear hR hM hW hK hO
    by_cases hlt : i < 3
    · have hi1 : (i : Int) < 3 := by omega
      go_wp2_with (first | (go_at_call 16; (with_reducible refine (RStep_any rb bm bw dc da 1 16 1 3 (wkR i) (List.replicate 17 0) 0 _ HMi.out HRi.out (MsOk.zero 17) HG.out (wkR_ok i) (by omega) (by omega) ?_ ?_ ?_ ?_ ?_).mono ?_); (exact HN.out.1); (exact HN.out.2.1); (intro e; have h1 := HOi.out rb e.symm; have h2 := HN.out; omega); (intro e; have h1 := HOi.out bm e.symm; have h2 := HN.out; omega); (intro e; have h1 := HOi.out bw e.symm; have h2 := HN.out; omega); rintro e w6 ⟨da6, dc6, rfl, hk6, hm6, hr6, ho6⟩; rw [wkR_step i (by omega)] at hm6 hr6 ho6; rw [wkR_did i hlt]) | (fail))
      go_roundw
      case rel =>
        have hown : ∀ x, x ∈ (Value.slice da 0 dc).ownBlock.toList → w5.heap.size ≤ x := fun x hx => HOi.out x (by simpa using hx)
        refine ⟨i + 1, by omega, by go_num, da6, dc6, hr6, hm6, HWi.out.keep hk6 ?_ ?_, HKi.out.fresh hk6 ?_, Nat.le_trans hS hk6.size, ?_⟩
        · intro hx
          have h2 := HN.out
          simp only [List.mem_cons] at hx
          rcases hx with hx | hx | hx
          · omega
          · omega
          · have := hown _ hx; omega
        · intro hx
          have h2 := HN.out
          simp only [List.mem_cons] at hx
          rcases hx with hx | hx | hx
          · omega
          · omega
          · have := hown _ hx; omega
        · intro x hx
          have h2 := HN.out
          have h3 := Hb5.out
          simp only [List.mem_cons] at hx
          rcases hx with hx | hx | hx
          · omega
          · omega
          · have := hown _ hx; have := HK5.out.size; omega
        · intro x hx
          rcases ho6 with h | ⟨g, h, hg⟩
          · exact HOi.out x (h.symm.trans hx)
          · have e := h.symm.trans hx
            cases e
            omega
      case measure => simp [intOf]; omega
    · obtain rfl : i = 3 := by omega
      have hi1 : ¬ ((3 : Nat) : Int) < 3 := by omega
      go_wp2_with (first | (go_at_call 16; (with_reducible refine (RStep_any rb bm bw dc da 1 16 1 3 (wkR 3) (List.replicate 17 0) 0 _ HMi.out HRi.out (MsOk.zero 17) HG.out (wkR_ok 3) (by omega) (by omega) ?_ ?_ ?_ ?_ ?_).mono ?_); (exact HN.out.1); (exact HN.out.2.1); (intro e; have h1 := HOi.out rb e.symm; have h2 := HN.out; omega); (intro e; have h1 := HOi.out bm e.symm; have h2 := HN.out; omega); (intro e; have h1 := HOi.out bw e.symm; have h2 := HN.out; omega); rintro e w6 ⟨da6, dc6, rfl, hk6, hm6, hr6, ho6⟩; rw [wkR_step 3 (by omega)] at hm6 hr6 ho6; rw [wkR_last]; simp only [DidV.cells]) | (fail))
      have hown : ∀ x, x ∈ (Value.slice da 0 dc).ownBlock.toList → w5.heap.size ≤ x := fun x hx => HOi.out x (by simpa using hx)
      have hM6 := Lib.hid (hm6.alloc (.cells #[.bool true, .int .i64 1, .slice none 0 0, .bool false, .int .i64 0, .bool false, .bool false, .bool false, .int .i64 1] 53))
      have hk6a := hk6.alloc (.cells #[.bool true, .int .i64 1, .slice none 0 0, .bool false, .int .i64 0, .bool false, .bool false, .bool false, .int .i64 1] 53)
      have hW6 := Lib.hid (HWi.out.keep hk6a (by
        intro hx
        have h2 := HN.out
        simp only [List.mem_cons] at hx
        rcases hx with hx | hx | hx
        · omega
        · omega
        · have := hown _ hx; omega) (by
        intro hx
        have h2 := HN.out
        simp only [List.mem_cons] at hx
        rcases hx with hx | hx | hx
        · omega
        · omega
        · have := hown _ hx; omega))
      have hK6 := Lib.hid (HKi.out.fresh hk6a (by
        intro x hx
        have h2 := HN.out
        have h3 := Hb5.out
        simp only [List.mem_cons] at hx
        rcases hx with hx | hx | hx
        · omega
        · omega
        · have := hown _ hx; have := HK5.out.size; omega))
      clear hr6 ho6 hm6 hk6 hk6a hown HRi HMi HWi HKi HOi HR5 HM5 HW5' HK5
      generalize w6.alloc (.cells #[.bool true, .int .i64 1, .slice none 0 0, .bool false, .int .i64 0, .bool false, .bool false, .bool false, .int .i64 1] 53) = w7 at *
      go_loopw [50] (fun v wr => ∃ i : Nat, i ≤ 6 ∧ v = .int .i64 i ∧ WrAt wr wb wbd 1 wcap 1 16 1 3 [9] (wkW i).1 ∧ MemAt wr bm bw (wkW i).2 ∧ Keeps [] w wr) (fun v _ => 6 - (intOf v).toNat)
      case atStart => exact ⟨0, by omega, rfl, hW6.out, hM6.out, hK6.out⟩
      case round =>
        obtain ⟨i, hi, rfl, hW, hM, hK⟩ := hrel
        have HMi := Lib.hid hM
        have HWi := Lib.hid hW
        have HKi := Lib.hid hK
        clear hM hW hK
        by_cases hlt : i < 6
        · have hi1 : (i : Int) < 6 := by omega
          go_wp2_with (first | (go_at_call 14; (with_reducible refine (WStep_any wb bm bw wbd 1 wcap 1 16 1 3 [9] (wkW i).1 (wkW i).2 0 _ HMi.out HWi.out (wkW_ok i (by omega)).2.1 (wkW_geo i (by omega)) (wkW_ok i (by omega)).1 (by omega) (by omega) ?_ ?_ ?_).mono ?_); (exact HN.out.2.2.1); (exact HN.out.2.2.2.1); (exact HN.out.2.2.2.2.2.1); rintro e w8 ⟨rfl, hk8, hm8, hw8⟩; have hd8 := wkW_not i hlt; generalize (wstep 1 16 1 1 [9] (wkW i).1 (wkW i).2 0).1 = d8 at hd8 ⊢) | (fail))
          go_roundw
          case rel =>
            refine ⟨i + 1, by omega, by go_num, hw8, hm8, HKi.out.fresh hk8 ?_⟩
            intro x hx
            have h3 := Hb5.out
            simp only [List.mem_cons, List.not_mem_nil, or_false] at hx
            omega
          case measure => simp [intOf]; omega
        · obtain rfl : i = 6 := by omega
          have hi1 : ¬ ((6 : Nat) : Int) < 6 := by omega
          go_wp2_with (first | (go_at_call 14; (with_reducible refine (WStep_any wb bm bw wbd 1 wcap 1 16 1 3 [9] (wkW 6).1 (wkW 6).2 0 _ HMi.out HWi.out (wkW_ok 6 (by omega)).2.1 (wkW_geo 6 (by omega)) (wkW_ok 6 (by omega)).1 (by omega) (by omega) ?_ ?_ ?_).mono ?_); (exact HN.out.2.2.1); (exact HN.out.2.2.2.1); (exact HN.out.2.2.2.2.2.1); rintro e w8 ⟨rfl, hk8, hm8, hw8⟩; have hd8 := wkW_done; generalize (wstep 1 16 1 1 [9] (wkW 6).1 (wkW 6).2 0).1 = d8 at hd8 ⊢) | (fail))
          go_ret
          refine ⟨ret_bool (by simp [hd8]), HKi.out.fresh hk8 ?_⟩
          intro x hx
          have h3 := Hb5.out
          simp only [List.mem_cons, List.not_mem_nil, or_false] at hx
          omega

end Go.Proofs.Ytpkjffiajidfcaa

/- play.begin of the law. -/
namespace Go.Proofs.Ytpkjffiajidfcaa
open Go.RowKit

/-- The cells of a play. -/
@[reducible, go_sem] def plCells (c : CfgV) (bm : Nat) (wv rv : Value) (n written marked begun first last steps own : Int) : Array Value :=
  #[.slice c.pa c.pn c.pc, .slice c.ca c.cn c.cc, .int .i64 c.l0, .slice c.w0a c.w0n c.w0c, .int .i64 c.l1, .slice c.w1a c.w1n c.w1c, .pointer (some ⟨bm, 0, none⟩), wv, rv, .int .u32 n, .int .u32 written, .int .u32 marked, .int .u32 begun, .int .u32 first, .int .u32 last, .int .i64 steps, .int .i64 own]

/-- A row that has been filled up to i. -/
def fillTo (len : Nat) (x : Int) (i : Nat) : List Int := List.replicate i x ++ List.replicate (len - i) 0

theorem fillTo_set {len i : Nat} (x : Int) (h : i < len) : (fillTo len x i).set i x = fillTo len x (i + 1) := by
  unfold fillTo
  rw [List.set_append, if_neg (by simp)]
  simp only [List.length_replicate, Nat.sub_self]
  obtain ⟨m, hm⟩ : ∃ m, len - i = m + 1 := ⟨len - i - 1, by omega⟩
  rw [hm, show len - (i + 1) = m by omega, List.replicate_succ, List.set_cons_zero, List.replicate_succ' (n := i), List.append_assoc]
  rfl

theorem fillTo_all (len : Nat) (x : Int) : fillTo len x len = List.replicate len x := by simp [fillTo]

theorem fillTo_len {len i : Nat} (x : Int) (h : i ≤ len) : (fillTo len x i).length = len := by simp [fillTo]; omega

theorem addr_add (b o j : Nat) : (⟨b, o, none⟩ : Addr).add j = ⟨b, o + j, none⟩ := by simp [Addr.add]

theorem Keeps.freshL {l m : List Nat} {w W W' : World} (h : Keeps l w W) (k : Keeps m W W') (hm : ∀ x, x ∈ m → x ∈ l ∨ w.heap.size ≤ x) : Keeps l w W' :=
  ⟨k.os.trans h.os, k.tape.trans h.tape, k.output.trans h.output, Nat.le_trans h.size k.size, fun i hi hl => (k.block i (Nat.lt_of_lt_of_le hi h.size) (fun e => by rcases hm i e with hx | hx; exact hl hx; omega)).trans (h.block i hi hl)⟩

theorem two_blk {w : World} {pb cb f0 f1 : Nat} {wds per : Int} (h : CfgAt w (twoC pb cb f0 f1 wds per)) : ∀ x, x ∈ (twoC pb cb f0 f1 wds per).blocks → x < w.heap.size := by
  intro x hx
  simp [CfgV.blocks, blockOf] at hx
  obtain ⟨b1, o1, e1, h1, _⟩ := h.parts.resolve_left (by simp)
  obtain ⟨b2, o2, e2, h2, _⟩ := h.chans.resolve_left (by simp)
  obtain ⟨b3, o3, e3, h3, _⟩ := h.wins0.resolve_left (by simp)
  obtain ⟨b4, o4, e4, h4, _⟩ := h.wins1.resolve_left (by simp)
  cases e1; cases e2; cases e3; cases e4
  rcases hx with rfl | rfl | rfl | rfl <;> assumption

def BeginPost (pl : Nat) (c : CfgV) (bm : Nat) (rv : Value) (n written marked begun first last own : Int) (len : Nat) (w : World) (e : Ending) (w' : World) : Prop :=
  ∃ wb wbd cap, e = .returned (.tuple #[]) ∧ Keeps [pl] w w' ∧ w.heap.size ≤ wb ∧ w.heap.size ≤ wbd ∧
    Blk w' pl (plCells c bm (.pointer (some ⟨wb, 0, none⟩)) rv n written marked begun first last 0 own) 43 ∧
    WrAt w' wb wbd len cap (spBefore c 0) (spBefore c 0 + spSz c 0) (c.chan 0 3) (c.chan 0 5) (List.replicate len n) ⟨0, 0, 0, 0, false⟩

set_option maxRecDepth 100000 in
set_option maxHeartbeats 4000000 in
theorem begin_any (pl pb cb f0 f1 bm : Nat) (wv rv : Value) (wds per n written marked begun first last steps own : Int) (w : World) (hb : Blk w pl (plCells (twoC pb cb f0 f1 wds per) bm wv rv n written marked begun first last steps own) 43)
    (hc : CfgAt w (twoC pb cb f0 f1 wds per)) (hne : ∀ x, x ∈ (twoC pb cb f0 f1 wds per).blocks → x ≠ pl) (hacc : spAcc (twoC pb cb f0 f1 wds per) = true) (h1 : 1 ≤ wds) (h16 : wds ≤ 16) (hn0 : 0 ≤ n) (hn1 : n ≤ 100000) (len : Nat) (hlen : (len : Int) = 1 + (n + 1) % wds) :
    Calls Try.prog 21 #[.pointer (some ⟨pl, 0, none⟩)] w (BeginPost pl (twoC pb cb f0 f1 wds per) bm rv (n + 1) written marked begun first last own len w) := by
  have Hc := Lib.hid hc
  have Hb := Lib.hid hb
  have hbc := hb.cell
  have hbf := hb.frozen
  have hlt := hb.lt
  have Hlen := Lib.hid hlen
  have Hne := Lib.hid hne
  clear hc hb hlen hne
  go_enter Try.func21, Try.ntmps21
  go_wp2_with fail
  have HB1 := Lib.hid (Hb.out.setTo (i := 9) (v := .int .u32 (n + 1)) (vs' := plCells (twoC pb cb f0 f1 wds per) bm wv rv (n + 1) written marked begun first last steps own) rfl)
  have HC1 := Lib.hid (Hc.out.keep ((Keeps.refl [pl] w).setCell (p := ⟨pl, 9, none⟩) (by simp) (.int .u32 (n + 1))) (by intro x hx; simpa using Hne.out x hx))
  have HK1 := Lib.hid ((Keeps.refl [pl] w).setCell (p := ⟨pl, 9, none⟩) (by simp) (.int .u32 (n + 1)))
  clear hbc hbf
  generalize w.setCell ⟨pl, 9, none⟩ (.int .u32 (n + 1)) = w1 at *
  have hbc := HB1.out.cell
  have hbf := HB1.out.frozen
  have hlt1 := HB1.out.lt
  obtain ⟨cb', co', hca, hcl, hrow⟩ := HC1.out.chans.resolve_left (by simp)
  cases hca
  have hch : w1.cell? ⟨cb, 3, none⟩ = some (.int .i64 wds) := by simpa [chs] using hrow 0 (by simp) 3 (by omega)
  clear hrow
  have hmk := make_u32 len (by have := Hlen.out; have := Int.emod_lt_of_pos (n + 1) (show 0 < wds by omega); omega)
  have hmod0 : 0 ≤ (n + 1) % wds := Int.emod_nonneg _ (by omega)
  have hmod1 : (n + 1) % wds < wds := Int.emod_lt_of_pos _ (by omega)
  have hlen2 : 1 + (n + 1) % wds = (len : Int) := Hlen.out.symm
  have hz : ¬ wds = 0 := by omega
  have hz2 : (wds == 0) = false := by simpa using hz
  have hnn : 0 ≤ n + 1 := by omega
  have htm : (n + 1).tmod wds = (n + 1) % wds := Int.tmod_eq_emod_of_nonneg hnn
  have hwn : IntKind.i64.wrap (n + 1) = n + 1 := wrap_i64 (by omega) (by omega)
  have hwr : IntKind.i64.wrap ((n + 1) % wds) = (n + 1) % wds := wrap_i64 hmod0 (by omega)
  have hwl : IntKind.i64.wrap (len : Int) = (len : Int) := wrap_i64 (by omega) (by omega)
  go_region_held3 (fun w' => (∀ j, w'.cell? ⟨pl, j, none⟩ = (plCells (twoC pb cb f0 f1 wds per) bm wv rv (n + 1) written marked begun first last steps own)[j]?) ∧ w'.cell? ⟨cb, 3, none⟩ = some (.int .i64 wds)) (first | (exact ⟨by (refine Blk.cell (t := 43) ?_; (repeat' with_reducible (first | exact HB1.out | apply Blk.drew | apply Blk.alloc)); done), (Keeps.cell (l := []) (w := w1) (by (repeat' with_reducible (first | exact Keeps.refl _ _ | assumption | apply Keeps.drew | apply Keeps.drewN | apply Keeps.alloc))) hcl (by simp)).trans hch⟩)) (fail)
  have hbD := (Blk.newAt (w := w1) (vs := u32s (List.replicate len 0)) (t := 41) (n := w1.heap.size) rfl).drew
  have hB2 := (HB1.out.alloc (.cells (u32s (List.replicate len 0)) 41)).drew
  have hK2 := ((Keeps.refl [] w1).alloc (.cells (u32s (List.replicate len 0)) 41)).drew
  have hC2 := HC1.out.kept hK2
  have hKp := HK1.out.trans ((hK2.mono (m := [pl]) (by simp)))
  generalize hdb : w1.heap.size = db at *
  generalize (w1.alloc (.cells (u32s (List.replicate len 0)) 41)).drew = w2 at *
  clear hbc hbf
  have hwdb : w.heap.size ≤ db := by have := HK1.out.size; omega
  have Hbl := Lib.hid (two_blk HC1.out)
  have HB2 := Lib.hid hB2
  have HC2 := Lib.hid hC2
  have HKp := Lib.hid hKp
  have hdl := hbD.lt
  have hpl := hB2.lt
  have hdp : db ≠ pl := by omega
  have hdp' : pl ≠ db := by omega
  have HbD : Hid (Blk w2 db (u32s (fillTo len (n + 1) 0)) 41) := Lib.hid (by simpa [fillTo] using hbD)
  clear hB2 hC2 hKp hbD hK2 HB1 HC1 HK1 hmk hch Hb Hc
  go_wp2_with fail
  go_loopw [29] (fun v wr => ∃ i : Nat, i ≤ len ∧ v = .int .i64 i ∧ Blk wr db (u32s (fillTo len (n + 1) i)) 41 ∧ Keeps [db] w2 wr) (fun v _ => len - (intOf v).toNat)
  case atStart => exact ⟨0, by omega, rfl, HbD.out, Keeps.refl _ _⟩
  case round =>
    obtain ⟨i, hi, rfl, hD, hK⟩ := hrel
    have hP := HB2.out.keep hK (by simp; omega)
    have hpc := hP.cell
    have hpl2 := hP.lt
    have hdl2 := hD.lt
    have HD := Lib.hid hD
    have HP := Lib.hid hP
    have HKK := Lib.hid hK
    by_cases hlt : i < len
    · have hi1 : (i : Int) < (len : Int) := by omega
      have hi0 : (0 : Int) ≤ (i : Int) := Int.natCast_nonneg _
      have hdc : wr.cell? ⟨db, i, none⟩ = some (.int .u32 (rd (fillTo len (n + 1) i) i)) := (hD.cell i).trans (u32s_get _ _ (by rw [fillTo_len _ hi]; exact hlt))
      have hdf : wr.frozen? ⟨db, i, none⟩ = false := hD.frozen i
      clear hD hP hK
      go_wp2_with fail
      go_roundw
      case rel =>
        refine ⟨i + 1, by omega, by go_num, ?_, HKK.out.setCell (by simp) _⟩
        rw [← fillTo_set _ hlt, ← u32s_set]
        exact HD.out.set i _
      case measure => simp [intOf]; omega
    · obtain rfl : i = len := by omega
      have hCr := Lib.hid (HC2.out.keep HKK.out (by intro x hx hm; have := Hbl.out x hx; simp at hm; omega))
      have hrow2 := Lib.hid (fun j u (hj : ((List.replicate i (n + 1)).map (Value.int .u32))[j]? = some u) => by
        have e := HD.out.cell j
        rw [fillTo_all] at e
        have e2 : (⟨db, 0, none⟩ : Addr).add j = ⟨db, 0 + j, none⟩ := addr_add db 0 j
        rw [Nat.zero_add] at e2
        rw [e2, e, u32s, List.getElem?_toArray]
        exact hj : ∀ j u, ((List.replicate i (n + 1)).map (Value.int .u32))[j]? = some u → wr.cell? ((⟨db, 0, none⟩ : Addr).add j) = some u)
      clear hD hP hK
      go_wp2_with (first | (go_at_call 13; (with_reducible refine (NewWriter_at (twoC pb cb f0 f1 wds per) 0 i i db 0 (List.replicate i (n + 1)) _ ?_ ?_ hacc _ hCr.out hrow2.out ?_ ?_ ?_ ?_).mono ?_); (simp); (simp); (simp); (omega); (omega); (exact hdl2); rintro e w5 ⟨wb, wbd, wcap, dv, rfl, hk5, hwb, hwbd, hne5, hW5, hdv5, hdx5⟩; have HP5 := Lib.hid (HP.out.keep hk5 (by simp)); have C5 := HP5.out.cell; have F5 := HP5.out.frozen; have L5 := HP5.out.lt; have HW5 := Lib.hid (And.intro hW5 (And.intro hdv5 hdx5)); clear hW5 hdv5 hdx5) | (fail))
      go_end0
      have hk5' := hk5.size
      have hKw : Keeps [pl] w w5 := by
        refine HKp.out.freshL (HKK.out.trans (hk5.mono (by simp))) ?_
        intro x hx
        simp at hx
        omega
      refine ⟨wb, wbd, wcap, rfl, (hKw.setCell (by simp) _).setCell (by simp) _, ?_, ?_, (HP5.out.set 7 _).setTo (i := 15) rfl, ⟨?_, ?_, hne5⟩⟩
      · have := HKp.out.size; have := HKK.out.size; omega
      · have := HKp.out.size; have := HKK.out.size; omega
      · exact (HW5.out.1.other (by dsimp only; omega) _).other (by dsimp only; omega) _
      · exact ⟨dv, (HW5.out.2.1.other (by dsimp only; omega) _).other (by dsimp only; omega) _, HW5.out.2.2⟩

end Go.Proofs.Ytpkjffiajidfcaa
