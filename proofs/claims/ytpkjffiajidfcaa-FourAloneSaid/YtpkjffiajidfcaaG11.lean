/- play.write of the law. -/
import Derived.Test.YtpkjffiajidfcaaG10
import Derived.Deep.DeepCutAuto
set_option linter.all false
set_option linter.unusedVariables false
set_option linter.unusedSimpArgs false

namespace Go.Proofs.Ytpkjffiajidfcaa
open Go.RowKit

/-- What play.write leaves. -/
def WriteTo (base : Nat) (c : CfgV) (pl bm bw rb : Nat) (da : Option Addr) (dc : Nat) (W per : Int) (P : PSt) (w : World) (e : Ending) (w' : World) : Prop :=
  ∃ wb wbd cap, e = .returned (.bool true) ∧ Below base w w' ∧ PlayAt w' base c pl bm bw wb wbd cap rb da dc W per P

/-- Where a write is under way. -/
def WMid (base : Nat) (c : CfgV) (pl bm bw rb : Nat) (da : Option Addr) (dc : Nat) (W per : Int) (P : PSt) (w w' : World) : Prop :=
  ∃ wb wbd cap, Below base w w' ∧ PlayAt w' base c pl bm bw wb wbd cap rb da dc W per P

/-- Where a step of a write has been done: the Did lies in a block of its own; the play's own block is as it was. -/
def WDid (d : DidV) (base : Nat) (c : CfgV) (pl bm bw wb wbd cap rb : Nat) (da : Option Addr) (dc : Nat) (W per : Int) (Q P : PSt) (w : World) (s5 : Value) (w' : World) : Prop :=
  ∃ rx, s5 = .pointer (some ⟨rx, 0, none⟩) ∧ rx ≠ pl ∧ Below base w w' ∧ Blk w' rx d.cells 53 ∧ Parts w' base c pl bm bw wb wbd cap rb da dc W per P ∧
    Blk w' pl (plCells c bm (.pointer (some ⟨wb, 0, none⟩)) (.pointer (radr rb Q.q)) Q.n Q.written Q.marked Q.begun Q.first Q.last Q.steps Q.own) 43

theorem below_keeps {l : List Nat} {base : Nat} {a w w' : World} (h : Below base a w) (k : Keeps l w w') (hl : ∀ x, x ∈ l → base ≤ x) (hb : base ≤ a.heap.size) : Below base a w' :=
  ⟨k.os.trans h.os, k.tape.trans h.tape, k.output.trans h.output, Nat.le_trans h.size k.size, fun i hi => (k.block i (by have := h.size; omega) (fun e => by have := hl i e; omega)).trans (h.block i hi)⟩

set_option maxRecDepth 100000 in
set_option maxHeartbeats 8000000 in
theorem write_any (base pl pb cb f0 f1 bm bw wb wbd cap rb : Nat) (da : Option Addr) (dc : Nat) (W per now : Int) (P : PSt) (w : World) (h : PlayAt w base (twoC pb cb f0 f1 W per) pl bm bw wb wbd cap rb da dc W per P)
    (hbase : base ≤ w.heap.size) (hi : PInv W P) (hW : 1 ≤ W) (hW' : W ≤ 16) (hacc : spAcc (twoC pb cb f0 f1 W per) = true) (hn0 : 0 ≤ now) (hn1 : now ≤ 4294967295) (hnn : P.n ≤ 10000) :
    Calls Try.prog 11 #[.pointer (some ⟨pl, 0, none⟩), .int .i64 now] w (WriteTo base (twoC pb cb f0 f1 W per) pl bm bw rb da dc W per (P.wnew.wnext W now) w) := by
  have Hp := Lib.hid h
  have Hi := Lib.hid hi
  have hn00 := hi.nat
  have hbc := h.obj.cell
  have hlt := h.obj.lt
  have Hne := Lib.hid (fun x (a : x ∈ (twoC pb cb f0 f1 W per).blocks) => (h.parts.pc x a).1)
  have hlow := h.parts.low.1
  clear h hi
  go_enter Try.func11, Try.ntmps11
  go_upto_if 11 with (fail)
  go_cut [] (fun wx => WMid base (twoC pb cb f0 f1 W per) pl bm bw rb da dc W per P.wnew w wx)
  case first =>
    by_cases hs : P.s.stage = 7
    · rw [wadr_nil hs] at hbc ⊢
      have hobj := Hp.out.obj
      rw [wadr_nil hs] at hobj
      have Hobj := Lib.hid hobj
      have hlen := Hi.out.len_eq hW
      have Hl : Hid (((({ P with s := ⟨0, 0, 0, 0, false⟩, n := P.n + 1, steps := 0 } : PSt).len W : Nat) : Int) = 1 + (P.n + 1) % W) := Lib.hid ((Hi.out.begin hs).len_eq hW)
      have Hs := Lib.hid hs
      clear hobj hlen hs
      go_wp2_with (first | (go_at_call 21; (with_reducible refine (begin_any pl pb cb f0 f1 bm _ _ W per P.n P.written P.marked P.begun P.first P.last P.steps P.own _ Hobj.out Hp.out.parts.cfg Hne.out hacc hW hW' hn00 (by omega) _ Hl.out).mono ?_); rintro e w' ⟨wb2, wbd2, cap2, rfl, hk, hb1, hb2, hB, hWr⟩) | (fail))
      go_meet
      refine ⟨wb2, wbd2, cap2, below_keeps (Below.refl _ _) hk (by simpa using hlow) hbase, ?_⟩
      have hP := Hp.out.parts.keep hk (by simp)
      rw [two_b0, two_sz] at hWr
      have hb3 := hWr.obj.lt
      have hb4 := hWr.data.elim fun _ d => d.1.lt
      unfold PSt.wnew
      rw [if_pos Hs.out]
      refine ⟨?_, { hP with rd := hP.rd, wr := fun _ => ⟨?_, by omega, ?_, ?_, ?_⟩, wrd := fun _ a => ?_ }⟩
      · rw [wadr_on (by show 0 ≠ 7; decide)]
        exact hB
      · rw [show (1 : Int) + (11 + 4 * W) = 12 + 4 * W by omega] at hWr
        exact hWr
      · have := Hp.out.parts.mem.hm.lt; have := Hp.out.parts.mem.hw.lt; omega
      · have := Hp.out.parts.mem.hm.lt; have := Hp.out.parts.mem.hw.lt; omega
      · intro x a; have := Hp.out.parts.cfgl x a; omega
      · have r := Hp.out.parts.rd a
        have := r.at_.obj.lt
        exact ⟨by omega, by omega, fun x hx => by have := rown_lt r.at_ hx; omega⟩
    · rw [wadr_on hs] at hbc ⊢
      have Hs := Lib.hid hs
      clear hs
      go_wp2_with fail
      go_meet
      refine ⟨wb, wbd, cap, Below.refl _ _, ?_⟩
      unfold PSt.wnew
      rw [if_neg Hs.out]
      exact Hp.out
  case rest =>
    obtain ⟨wb', wbd', cap', hbel, hpl⟩ := hcut
    obtain ⟨hQ, hQs, hQn⟩ := Hi.out.wnew
    clear Hp hbc hlt hlow Hne
    generalize P.wnew = Q at *
    obtain ⟨⟨z0, z1, z2, z3, z4, z5, z6, z7, z8, z9, z10⟩, hd⟩ : ∃ d, (Q.wr W now).1 = d := ⟨_, rfl⟩
    obtain ⟨hob, hpa⟩ := hpl
    rw [wadr_on (by omega)] at hob
    have Hb := Lib.hid hob
    have Hp := Lib.hid hpa
    have HQ := Lib.hid hQ
    have Hd := Lib.hid hd
    have hbc := hob.cell
    have hlt := hob.lt
    have Hbel := Lib.hid hbel
    have hwb1 := (hpa.wr (by omega)).wb1
    have hp1 := hpa.p1
    have hlow := hpa.low
    have hwl := (hpa.wr (by omega)).low
    have hbs : base ≤ wc.heap.size := Nat.le_trans hbase hbel.size
    have lwb := (hpa.wr (by omega)).at_.obj.lt
    have lbw := hpa.mem.hw.lt
    clear hob hpa hQ hd hbel Hi
    go_upto_region 3 with fail
    go_cut [5] (fun s5 wx => WDid ⟨z0, z1, z2, z3, z4, z5, z6, z7, z8, z9, z10⟩ base (twoC pb cb f0 f1 W per) pl bm bw wb' wbd' cap' rb da dc W per Q (Q.wnext W now) w s5 wx)
    case first =>
      go_region_held3 (fun w' => ∀ j, w'.cell? ⟨pl, j, none⟩ = (plCells (twoC pb cb f0 f1 W per) bm (.pointer (some ⟨wb', 0, none⟩)) (.pointer (radr rb Q.q)) Q.n Q.written Q.marked Q.begun Q.first Q.last Q.steps Q.own)[j]?) (first | (refine Blk.cell (t := 43) ?_; (repeat' with_reducible (first | exact Hb.out | exact Hb6.out | apply Blk.drew | apply Blk.alloc | refine' Blk.other ?_ (by dsimp only; omega) _)))) (first | (go_at_call 14; (with_reducible refine (WStep_at ⟨z0, z1, z2, z3, z4, z5, z6, z7, z8, z9, z10⟩ base (twoC pb cb f0 f1 W per) pl bm bw wb' wbd' cap' rb da dc W per now Q _ (Hp.out.keep (l := []) ?_ (by simp)) (by omega) HQ.out hW hW' hn0 hn1 Hd.out).mono ?_); (repeat' with_reducible (first | exact Keeps.refl _ _ | assumption | apply Keeps.drew | apply Keeps.drewN | apply Keeps.alloc)); rintro e w6 ⟨rfl, hk6, hp6⟩; have Hb6 := Lib.hid (Blk.keep (l := [wb', bw]) (b := pl) (by (repeat' with_reducible (first | exact Hb.out | apply Blk.drew | apply Blk.alloc))) hk6 (by simp; omega)); (first | (have Bd6 : Blk w6 wc.heap.size #[.bool false, .int .i64 0, .slice none 0 0, .bool false, .int .i64 0, .bool false, .bool false, .bool false, .int .i64 0] 53 := Blk.keep (l := [wb', bw]) (Blk.newAt (w := wc.drew) rfl) hk6 (by simp; omega); have Cd6 := Bd6.cell; have Fd6 := Bd6.frozen; have Ld6 := Bd6.lt) | skip); (simp only [DidV.cells])) | (fail))
      · go_wp2_with fail
        go_meet
        case rel =>
          have k6 : Keeps [] w6 (w6.alloc (.cells #[.bool z0, .int .i64 z1, .slice z2 z3 z4, .bool z5, .int .i64 z6, .bool z7, .bool z8, .bool z9, .int .i64 z10] 53)) := (Keeps.refl _ _).alloc _
          have b6 := below_keeps (below_keeps Hbel.out (Keeps.trans (by (repeat' with_reducible (first | exact Keeps.refl _ _ | assumption | apply Keeps.drew | apply Keeps.drewN | apply Keeps.alloc))) hk6) (by simp; omega) hbase) k6 (by simp) hbase
          exact ⟨w6.heap.size, rfl, by have := Hb6.out.lt; omega, b6, Blk.new _ _ _, hp6.keep k6 (by simp), Hb6.out.alloc _⟩
      · go_wp2_with fail
        go_meet
        case rel =>
          have k6 : Keeps [wc.heap.size] w6 (((((((((w6.setCell ⟨wc.heap.size, 0, none⟩ (.bool z0)).setCell ⟨wc.heap.size, 1, none⟩ (.int .i64 z1)).setCell ⟨wc.heap.size, 2, none⟩ (.slice z2 z3 z4)).setCell ⟨wc.heap.size, 3, none⟩ (.bool z5)).setCell ⟨wc.heap.size, 4, none⟩ (.int .i64 z6)).setCell ⟨wc.heap.size, 5, none⟩ (.bool z7)).setCell ⟨wc.heap.size, 6, none⟩ (.bool z8)).setCell ⟨wc.heap.size, 7, none⟩ (.bool z9)).setCell ⟨wc.heap.size, 8, none⟩ (.int .i64 z10)) := by (repeat' with_reducible (first | exact Keeps.refl _ _ | (refine Keeps.setCell ?_ (by simp) _)))
          have b6 := below_keeps (below_keeps Hbel.out (Keeps.trans (by (repeat' with_reducible (first | exact Keeps.refl _ _ | assumption | apply Keeps.drew | apply Keeps.drewN | apply Keeps.alloc))) hk6) (by simp; omega) hbase) k6 (by simp; omega) hbase
          have h6 : w6.heap.size ≥ wc.heap.size := Nat.le_of_lt Ld6
          exact ⟨wc.heap.size, rfl, by omega, b6, Bd6.nine, hp6.keepOff k6 (fun x a => .inr (by have o := Hp.out.off (x := x) (by simp at a; omega); exact ⟨o.mem, o.cfg, fun _ => o.wr (by omega), o.rd⟩)), Hb6.out.keep k6 (by simp; omega)⟩
    case rest =>
      obtain ⟨rx, rfl, hrx, hbel, hdid, hpa, hob⟩ := hcut
      have hG := HQ.out.write hW hW' hQs now hn0 hn1 (by omega)
      obtain ⟨hI2, g1, g2, g3, g4⟩ := hG
      rw [Hd.out] at g1 g2 g3 g4
      dsimp only at g1 g2 g3 g4
      subst g1
      have hmk : (Q.wnext W now).marked = if z7 then Q.n else Q.marked := by unfold PSt.wnext; rw [Hd.out]
      have hwt : (Q.wnext W now).written = if z0 then Q.n else Q.written := by unfold PSt.wnext; rw [Hd.out]
      have Hpa := Lib.hid hpa
      have Hob := Lib.hid hob
      have Hbel2 := Lib.hid hbel
      have hbc := hob.cell
      have hbf := hob.frozen
      have hlt := hob.lt
      have hc0 : wc.cell? ⟨rx, 0, none⟩ = some (.bool z0) := hdid.cell 0
      have hc1 : wc.cell? ⟨rx, 1, none⟩ = some (.int .i64 0) := hdid.cell 1
      have hc5 : wc.cell? ⟨rx, 5, none⟩ = some (.bool z7) := hdid.cell 5
      have hst0 := HQ.out.steps0 hW hQs
      have hrx' : pl ≠ rx := hrx.symm
      have HG := Lib.hid (And.intro g2 (And.intro g3 (And.intro g4 (And.intro hmk hwt))))
      clear hpa hob hbel hdid g2 g3 g4 hmk hwt hI2
      have hst : (Q.wnext W now).s.stage = (Q.wr W now).2.1.stage := rfl
      cases z0 <;> cases z7
      · have hst1 : Q.steps + 1 < 40 := HG.out.2.1 rfl
        go_upto_region 4 with fail
        go_upto_region 7 with fail
        go_wp2_with fail
        go_ret
        have k8 : Keeps [pl] wc (wc.setCell ⟨pl, 15, none⟩ (.int .i64 (Q.steps + 1))) := by (repeat' with_reducible (first | exact Keeps.refl _ _ | apply Keeps.drew | apply Keeps.drewN | (refine Keeps.setCell ?_ (by simp) _)))
        refine ⟨wb', wbd', cap', rfl, below_keeps Hbel2.out k8 (by simp; omega) hbase, ⟨?_, Hpa.out.keep k8 (by simp)⟩⟩
        obtain ⟨g2, g3, g4, g5, g6⟩ := HG.out
        rw [g5, g6]
        rw [wadr_on (by have q := g4.mpr; rw [← hst] at q; intro e; exact absurd (q e) (by simp))]
        exact Hob.out.pl_steps _
      · have hst1 : Q.steps + 1 < 40 := HG.out.2.1 rfl
        go_upto_region 4 with fail
        go_upto_region 7 with fail
        go_wp2_with fail
        go_ret
        have k8 : Keeps [pl] wc ((wc.setCell ⟨pl, 15, none⟩ (.int .i64 (Q.steps + 1))).setCell ⟨pl, 11, none⟩ (.int .u32 Q.n)) := by (repeat' with_reducible (first | exact Keeps.refl _ _ | apply Keeps.drew | apply Keeps.drewN | (refine Keeps.setCell ?_ (by simp) _)))
        refine ⟨wb', wbd', cap', rfl, below_keeps Hbel2.out k8 (by simp; omega) hbase, ⟨?_, Hpa.out.keep k8 (by simp)⟩⟩
        obtain ⟨g2, g3, g4, g5, g6⟩ := HG.out
        rw [g5, g6]
        rw [wadr_on (by have q := g4.mpr; rw [← hst] at q; intro e; exact absurd (q e) (by simp))]
        exact (Hob.out.pl_steps _).pl_marked _
      · obtain ⟨e2, e3⟩ := HG.out.1 rfl
        obtain ⟨cb', co', hca, hcl, hrow⟩ := Hpa.out.cfg.chans.resolve_left (by simp)
        cases hca
        have hch : wc.cell? ⟨cb, 3, none⟩ = some (.int .i64 W) := by simpa [chs] using hrow 0 (by simp) 3 (by omega)
        have hcpl : cb ≠ pl := (Hpa.out.pc cb (by simp [CfgV.blocks, blockOf])).1
        have hcpl' : pl ≠ cb := hcpl.symm
        clear hrow hcl
        have hQ0 := HQ.out.nat
        have hmod0 : 0 ≤ Q.n % W := Int.emod_nonneg _ (by omega)
        have hmod1 : Q.n % W < W := Int.emod_lt_of_pos _ (by omega)
        have hz : ¬ W = 0 := by omega
        have hz2 : (W == 0) = false := by simpa using hz
        have htm : Q.n.tmod W = Q.n % W := Int.tmod_eq_emod_of_nonneg hQ0
        have hwn : IntKind.i64.wrap Q.n = Q.n := wrap_i64 (by omega) (by omega)
        have hwr : IntKind.i64.wrap (Q.n % W) = Q.n % W := wrap_i64 hmod0 (by omega)
        have hwl : IntKind.i64.wrap (1 + Q.n % W) = 1 + Q.n % W := wrap_i64 (by omega) (by omega)
        have hwl2 : IntKind.i64.wrap (1 + Q.n % W + 6) = 1 + Q.n % W + 6 := wrap_i64 (by omega) (by omega)
        have hst40 : Q.steps ≤ 100 := by omega
        have hst1 : (Q.steps + 1 == 1 + Q.n % W + 6) = true := by simpa using e2
        have hmn : (Q.marked == Q.n) = true := by simpa using e3
        clear e2 e3
        go_upto_region 4 with fail
        go_upto_region 7 with fail
        go_upto_region 9 with fail
        go_quiet (fail)
        go_wp2_with fail
        go_ret
        obtain ⟨g2, g3, g4, g5, g6⟩ := HG.out
        refine ⟨wb', wbd', cap', rfl, below_keeps (l := [pl]) Hbel2.out ?_ (by simp; omega) hbase, ⟨?_, Hpa.out.keep (l := [pl]) ?_ (by simp)⟩⟩
        · (repeat' with_reducible (first | exact Keeps.refl _ _ | apply Keeps.drew | apply Keeps.drewN | (refine Keeps.setCell ?_ (by simp) _)))
        · rw [g5, g6, wadr_nil (by rw [hst]; exact g4.mp (by simp))]
          exact ((Blk.drewN (Hob.out.pl_steps _) _).pl_written _).pl_wv _
        · (repeat' with_reducible (first | exact Keeps.refl _ _ | apply Keeps.drew | apply Keeps.drewN | (refine Keeps.setCell ?_ (by simp) _)))
      · obtain ⟨e2, e3⟩ := HG.out.1 rfl
        obtain ⟨cb', co', hca, hcl, hrow⟩ := Hpa.out.cfg.chans.resolve_left (by simp)
        cases hca
        have hch : wc.cell? ⟨cb, 3, none⟩ = some (.int .i64 W) := by simpa [chs] using hrow 0 (by simp) 3 (by omega)
        have hcpl : cb ≠ pl := (Hpa.out.pc cb (by simp [CfgV.blocks, blockOf])).1
        have hcpl' : pl ≠ cb := hcpl.symm
        clear hrow hcl
        have hQ0 := HQ.out.nat
        have hmod0 : 0 ≤ Q.n % W := Int.emod_nonneg _ (by omega)
        have hmod1 : Q.n % W < W := Int.emod_lt_of_pos _ (by omega)
        have hz : ¬ W = 0 := by omega
        have hz2 : (W == 0) = false := by simpa using hz
        have htm : Q.n.tmod W = Q.n % W := Int.tmod_eq_emod_of_nonneg hQ0
        have hwn : IntKind.i64.wrap Q.n = Q.n := wrap_i64 (by omega) (by omega)
        have hwr : IntKind.i64.wrap (Q.n % W) = Q.n % W := wrap_i64 hmod0 (by omega)
        have hwl : IntKind.i64.wrap (1 + Q.n % W) = 1 + Q.n % W := wrap_i64 (by omega) (by omega)
        have hwl2 : IntKind.i64.wrap (1 + Q.n % W + 6) = 1 + Q.n % W + 6 := wrap_i64 (by omega) (by omega)
        have hst40 : Q.steps ≤ 100 := by omega
        have hst1 : (Q.steps + 1 == 1 + Q.n % W + 6) = true := by simpa using e2
        have hmn : (Q.n == Q.n) = true := by simpa using e3
        clear e2 e3
        go_upto_region 4 with fail
        go_upto_region 7 with fail
        go_upto_region 9 with fail
        go_quiet (fail)
        go_wp2_with fail
        go_ret
        obtain ⟨g2, g3, g4, g5, g6⟩ := HG.out
        refine ⟨wb', wbd', cap', rfl, below_keeps (l := [pl]) Hbel2.out ?_ (by simp; omega) hbase, ⟨?_, Hpa.out.keep (l := [pl]) ?_ (by simp)⟩⟩
        · (repeat' with_reducible (first | exact Keeps.refl _ _ | apply Keeps.drew | apply Keeps.drewN | (refine Keeps.setCell ?_ (by simp) _)))
        · rw [g5, g6, wadr_nil (by rw [hst]; exact g4.mp (by simp))]
          exact ((Blk.drewN ((Hob.out.pl_steps _).pl_marked _) _).pl_written _).pl_wv _
        · (repeat' with_reducible (first | exact Keeps.refl _ _ | apply Keeps.drew | apply Keeps.drewN | (refine Keeps.setCell ?_ (by simp) _)))

end Go.Proofs.Ytpkjffiajidfcaa

/- play.read of the law. -/
namespace Go.Proofs.Ytpkjffiajidfcaa
open Go.RowKit

/-- What play.read leaves. -/
def ReadTo (base : Nat) (c : CfgV) (pl bm bw wb wbd cap : Nat) (W per : Int) (now : Int) (P : PSt) (w : World) (e : Ending) (w' : World) : Prop :=
  ∃ rb da dc Q, e = .returned (.bool true) ∧ Below base w w' ∧ PlayAt w' base c pl bm bw wb wbd cap rb da dc W per Q ∧ PInv W Q ∧ Q.n = P.n ∧ Q.s = P.s

/-- Where a read is under way. -/
def RMid (base : Nat) (c : CfgV) (pl bm bw wb wbd cap : Nat) (W per : Int) (P : PSt) (w w' : World) : Prop :=
  ∃ rb da dc, Below base w w' ∧ PlayAt w' base c pl bm bw wb wbd cap rb da dc W per P

/-- Where a step of a read has been done. -/
def RDid (did : Option Addr → Nat → DidV) (base : Nat) (c : CfgV) (pl bm bw wb wbd cap rb : Nat) (W per : Int) (Q P : PSt) (w : World) (s5 : Value) (w' : World) : Prop :=
  ∃ rx da dc, s5 = .pointer (some ⟨rx, 0, none⟩) ∧ rx ≠ pl ∧ Below base w w' ∧ Blk w' rx (did da dc).cells 53 ∧ Parts w' base c pl bm bw wb wbd cap rb da dc W per P ∧ RdAt w' rb da dc 1 (12 + 4 * W) W per P.q ∧
    (∀ x, rown da dc P.q = some x → x ≠ pl ∧ x ≠ rx) ∧
    Blk w' pl (plCells c bm (.pointer (wadr wb Q.s)) (.pointer (some ⟨rb, 0, none⟩)) Q.n Q.written Q.marked Q.begun Q.first Q.last Q.steps Q.own) 43

set_option maxRecDepth 100000 in
set_option maxHeartbeats 8000000 in
theorem read_any (base pl pb cb f0 f1 bm bw wb wbd cap rb : Nat) (da : Option Addr) (dc : Nat) (W per now : Int) (P : PSt) (w : World) (h : PlayAt w base (twoC pb cb f0 f1 W per) pl bm bw wb wbd cap rb da dc W per P)
    (hbase : base ≤ w.heap.size) (hi : PInv W P) (hW : 1 ≤ W) (hW' : W ≤ 16) (hacc : spAcc (twoC pb cb f0 f1 W per) = true) (hn0 : 0 ≤ now) (hn1 : now ≤ 4294967295) (hnn : P.n ≤ 10000) :
    Calls Try.prog 12 #[.pointer (some ⟨pl, 0, none⟩), .int .i64 now] w (ReadTo base (twoC pb cb f0 f1 W per) pl bm bw wb wbd cap W per now P w) := by
  have Hp := Lib.hid h
  have Hi := Lib.hid hi
  have hn00 := hi.nat
  have hbc := h.obj.cell
  have hbf := h.obj.frozen
  have hlt := h.obj.lt
  have hlow := h.parts.low.1
  clear h hi
  go_enter Try.func12, Try.ntmps12
  go_upto_if 15 with (fail)
  go_cut [] (fun wx => RMid base (twoC pb cb f0 f1 W per) pl bm bw wb wbd cap W per P.rnew w wx)
  case first =>
    by_cases hs : P.q.stage = 6
    · rw [radr_nil hs] at hbc ⊢
      have hobj := Hp.out.obj
      rw [radr_nil hs] at hobj
      have Hobj := Lib.hid hobj
      have Hs := Lib.hid hs
      clear hobj hs
      go_upto_region 3 with (first | (go_at_call 15; (with_reducible refine (NewReader_at (twoC pb cb f0 f1 W per) 0 _ (by simp) (by simp) hacc _ Hp.out.parts.cfg).mono ?_); rintro e w4 ⟨rb2, rfl, hk, hb1, hR⟩; have Hb4 := Lib.hid (Hobj.out.keep hk (by simp)); have hbc4 := Hb4.out.cell; have hbf4 := Hb4.out.frozen; have hlt4 := Hb4.out.lt) | (fail))
      go_region
      all_goals (go_wp2_with fail; go_meet)
      refine ⟨rb2, none, 0, below_keeps (below_keeps (Below.refl _ _) hk (by simp) hbase) (l := [pl]) ?_ (by simpa using hlow) hbase, ?_⟩
      · (repeat' with_reducible (first | exact Keeps.refl _ _ | apply Keeps.drew | apply Keeps.drewN | (refine Keeps.setCell ?_ (by simp) _)))
      · have k8 : Keeps [pl] w4 ((((w4.setCell ⟨pl, 8, none⟩ (.pointer (some ⟨rb2, 0, none⟩))).setCell ⟨pl, 12, none⟩ (.int .u32 P.written)).setCell ⟨pl, 13, none⟩ (.int .u32 P.marked)).setCell ⟨pl, 16, none⟩ (.int .i64 0)).drew := by (repeat' with_reducible (first | exact Keeps.refl _ _ | apply Keeps.drew | apply Keeps.drewN | (refine Keeps.setCell ?_ (by simp) _)))
        have hP := (Hp.out.parts.keep hk (by simp)).keep k8 (by simp)
        have hRk := hR.keep k8 (by simp; omega)
        rw [two_b0, two_sz] at hRk
        rw [show (1 : Int) + (11 + 4 * W) = 12 + 4 * W by omega] at hRk
        unfold PSt.rnew
        rw [if_pos Hs.out]
        refine ⟨?_, { hP with wr := hP.wr, rd := fun _ => ⟨⟨hRk, World.ownsRow_nil _ _ _ _⟩, by omega, ?_, ?_, ?_⟩, wrd := fun a _ => ?_ }⟩
        · rw [radr_on (by show 0 ≠ 6; decide)]
          exact (((Hb4.out.pl_rv _).pl_begun _).pl_first _).pl_own _
        · have := Hp.out.parts.mem.hm.lt; have := Hp.out.parts.mem.hw.lt; omega
        · intro x hx; exact absurd hx (by simp [rown, Value.ownBlock])
        · intro x a; have := Hp.out.parts.cfgl x a; exact ⟨by omega, by simp [rown, Value.ownBlock]⟩
        · have r := Hp.out.parts.wr a
          have := r.at_.obj.lt
          have := r.at_.data.elim fun _ d => d.1.lt
          exact ⟨by omega, by omega, fun x hx => absurd hx (by simp [rown, Value.ownBlock])⟩
    · rw [radr_on hs] at hbc ⊢
      have Hs := Lib.hid hs
      clear hs
      go_wp2_with fail
      go_meet
      refine ⟨rb, da, dc, Below.refl _ _, ?_⟩
      unfold PSt.rnew
      rw [if_neg Hs.out]
      exact Hp.out
  case rest =>
    obtain ⟨rb', da', dc', hbel, hpl⟩ := hcut
    obtain ⟨hQ, hQs⟩ := Hi.out.rnew
    have hQn : P.rnew.n = P.n ∧ P.rnew.s = P.s := by unfold PSt.rnew; split <;> exact ⟨rfl, rfl⟩
    clear Hp hbc hbf hlt hlow
    generalize P.rnew = Q at *
    obtain ⟨hob, hpa⟩ := hpl
    rw [radr_on (by omega)] at hob
    have hrd := hpa.rd (by omega)
    have Hb := Lib.hid hob
    have Hp := Lib.hid hpa
    have HQ := Lib.hid hQ
    have hbc := hob.cell
    have hlt := hob.lt
    have Hbel := Lib.hid hbel
    have hrb1 := hrd.rb1
    have hp1 := hpa.p1
    have hlow := hpa.low
    have hrl := hrd.low
    have Hown := Lib.hid hrd.own
    have Hownl := Lib.hid (fun x (a : rown da' dc' Q.q = some x) => rown_lt hrd.at_ a)
    have hbs : base ≤ wc.heap.size := Nat.le_trans hbase hbel.size
    have lrb := hrd.at_.obj.lt
    have lbw := hpa.mem.hw.lt
    clear hob hpa hQ hbel Hi hrd
    have hpl3 : pl ∉ (rb' :: bw :: (rown da' dc' Q.q).toList) := by
      intro a
      simp only [List.mem_cons, Option.mem_toList] at a
      rcases a with a | a | a
      · omega
      · omega
      · exact (Hown.out pl a).2.1 rfl
    have hws3 : wc.heap.size ∉ (rb' :: bw :: (rown da' dc' Q.q).toList) := by
      intro a
      simp only [List.mem_cons, Option.mem_toList] at a
      rcases a with a | a | a
      · omega
      · omega
      · have := Hownl.out _ a; omega
    have hbl3 : ∀ x, x ∈ (rb' :: bw :: (rown da' dc' Q.q).toList) → base ≤ x := by
      intro x a
      simp only [List.mem_cons, Option.mem_toList] at a
      rcases a with a | a | a
      · omega
      · omega
      · exact (Hown.out x a).1
    have Hpl3 := Lib.hid hpl3
    have Hws3 := Lib.hid hws3
    have Hbl3 := Lib.hid hbl3
    clear hpl3 hws3 hbl3
    go_upto_region 4 with fail
    go_cut [5] (fun s5 wx => RDid (rdid 1 W per Q.q Q.ms now) base (twoC pb cb f0 f1 W per) pl bm bw wb wbd cap rb' W per Q (Q.rnext W) w s5 wx)
    case first =>
      go_region_held3 (fun w' => ∀ j, w'.cell? ⟨pl, j, none⟩ = (plCells (twoC pb cb f0 f1 W per) bm (.pointer (wadr wb Q.s)) (.pointer (some ⟨rb', 0, none⟩)) Q.n Q.written Q.marked Q.begun Q.first Q.last Q.steps Q.own)[j]?) (first | (refine Blk.cell (t := 43) ?_; (repeat' with_reducible (first | exact Hb.out | exact Hb6.out | apply Blk.drew | apply Blk.alloc | refine' Blk.other ?_ (by dsimp only; omega) _)))) (first | (go_at_call 16; (with_reducible refine (RStep_at base (twoC pb cb f0 f1 W per) pl bm bw wb wbd cap rb' da' dc' W per now Q _ (Hp.out.keep (l := []) ?_ (by simp)) ?_ ?_ (by omega) HQ.out hW hW' hn0 hn1).mono ?_); (repeat' with_reducible (first | exact Keeps.refl _ _ | assumption | apply Keeps.drew | apply Keeps.drewN | apply Keeps.alloc)); (simp; omega); (simp; omega); rintro e w6 ⟨da6, dc6, rfl, hk6, hp6, hr6, ho6⟩; have Hb6 := Lib.hid (Blk.keep (b := pl) (by (repeat' with_reducible (first | exact Hb.out | apply Blk.drew | apply Blk.alloc))) hk6 Hpl3.out); (first | (have Bd6 : Blk w6 wc.heap.size #[.bool false, .int .i64 0, .slice none 0 0, .bool false, .int .i64 0, .bool false, .bool false, .bool false, .int .i64 0] 53 := Blk.keep (Blk.newAt (w := wc.drew) rfl) hk6 Hws3.out; have Cd6 := Bd6.cell; have Fd6 := Bd6.frozen; have Ld6 := Bd6.lt) | skip); have Hp6 := Lib.hid (And.intro hk6 (And.intro hp6 (And.intro hr6 ho6))); clear hk6 hp6 hr6 ho6; (generalize hD : rdid 1 W per Q.q Q.ms now da6 dc6 = r at *; obtain ⟨z0, z1, z2, z3, z4, z5, z6, z7, z8, z9, z10⟩ := r; have HD := Lib.hid hD; clear hD; simp only [DidV.cells])) | (fail))
      · go_wp2_with fail
        go_meet
        case rel =>
          obtain ⟨hk6, hp6, hr6, ho6⟩ := Hp6.out
          have k6 : Keeps [] w6 (w6.alloc (.cells #[.bool z0, .int .i64 z1, .slice z2 z3 z4, .bool z5, .int .i64 z6, .bool z7, .bool z8, .bool z9, .int .i64 z10] 53)) := (Keeps.refl _ _).alloc _
          have b6 := below_keeps (below_keeps Hbel.out (Keeps.trans (by (repeat' with_reducible (first | exact Keeps.refl _ _ | assumption | apply Keeps.drew | apply Keeps.drewN | apply Keeps.alloc))) hk6) Hbl3.out hbase) k6 (by simp) hbase
          have hz := hk6.size
          have hsz : wc.heap.size ≤ w6.heap.size := by simpa using hz
          refine ⟨w6.heap.size, da6, dc6, rfl, by have := Hb6.out.lt; omega, b6, by rw [HD.out]; exact Blk.new _ _ _, hp6.keep k6 (by simp), hr6.keep k6 (by simp) (by simp), fun x hx => ?_, Hb6.out.alloc _⟩
          have hl6 := rown_lt hr6 hx
          rcases ho6 x hx with a | a
          · exact ⟨(Hown.out x a).2.1, by omega⟩
          · exact ⟨by have : wc.heap.size ≤ x := by simpa using a
                      omega, by omega⟩
      · go_wp2_with fail
        go_meet
        case rel =>
          obtain ⟨hk6, hp6, hr6, ho6⟩ := Hp6.out
          have k6 : Keeps [wc.heap.size] w6 (((((((((w6.setCell ⟨wc.heap.size, 0, none⟩ (.bool z0)).setCell ⟨wc.heap.size, 1, none⟩ (.int .i64 z1)).setCell ⟨wc.heap.size, 2, none⟩ (.slice z2 z3 z4)).setCell ⟨wc.heap.size, 3, none⟩ (.bool z5)).setCell ⟨wc.heap.size, 4, none⟩ (.int .i64 z6)).setCell ⟨wc.heap.size, 5, none⟩ (.bool z7)).setCell ⟨wc.heap.size, 6, none⟩ (.bool z8)).setCell ⟨wc.heap.size, 7, none⟩ (.bool z9)).setCell ⟨wc.heap.size, 8, none⟩ (.int .i64 z10)) := by (repeat' with_reducible (first | exact Keeps.refl _ _ | apply Keeps.drew | apply Keeps.drewN | (refine Keeps.setCell ?_ (by simp) _)))
          have b6 := below_keeps (below_keeps Hbel.out (Keeps.trans (by (repeat' with_reducible (first | exact Keeps.refl _ _ | assumption | apply Keeps.drew | apply Keeps.drewN | apply Keeps.alloc))) hk6) Hbl3.out hbase) k6 (by simp; omega) hbase
          have h6 : w6.heap.size ≥ wc.heap.size := Nat.le_of_lt Ld6
          have ho7 : ∀ x, rown da6 dc6 (Q.rnext W).q = some x → x ≠ pl ∧ x ≠ wc.heap.size := by
            intro x hx
            rcases ho6 x hx with a | a
            · exact ⟨(Hown.out x a).2.1, by have := Hownl.out x a; omega⟩
            · have a2 : wc.heap.size + 1 ≤ x := by simpa using a
              omega
          refine ⟨wc.heap.size, da6, dc6, rfl, by omega, b6, by rw [HD.out]; exact Bd6.nine, hp6.keepOff k6 (fun x a => .inr ?_), hr6.keep k6 (by simp; omega) (fun x hx => by have := (ho7 x hx).2; simpa using this), ho7, Hb6.out.keep k6 (by simp; omega)⟩
          obtain rfl : x = wc.heap.size := by simpa using a
          have o := Hp.out.off (x := wc.heap.size) (Nat.le_refl _)
          exact ⟨o.mem, o.cfg, o.wr, fun b => ⟨by omega, fun e => (ho7 _ e).2 rfl⟩⟩
    case rest =>
      obtain ⟨rx, da2, dc2, rfl, hrx, hbel, hdid, hpa, hra, hown, hob⟩ := hcut
      have hrx' : pl ≠ rx := hrx.symm
      have Hpa := Lib.hid hpa
      have Hra := Lib.hid hra
      have Hob := Lib.hid hob
      have Hbel2 := Lib.hid hbel
      have Hown2 := Lib.hid hown
      have hbc := hob.cell
      have hbf := hob.frozen
      have hlt := hob.lt
      have ow := HQ.out.own0 hQs
      clear hpa hra hob hbel hown
      rcases HQ.out.read hW hW' hQs per now with ⟨hq, hd, ho, hi⟩ | ⟨hq, hx, hd, hb, hi⟩ | ⟨v, k, hq, hx, hd, hb, hi⟩
      · have hc0 : wc.cell? ⟨rx, 0, none⟩ = some (.bool false) := by rw [← hd da2 dc2]; exact hdid.cell 0
        have HI := Lib.hid (And.intro hi hq)
        clear hdid hd hi hq
        go_upto_region 5 with fail
        go_wp2_with fail
        go_ret
        refine ⟨rb', da2, dc2, Q.rnext W, rfl, below_keeps (l := [pl]) Hbel2.out ?_ (by simp; omega) hbase, ⟨?_, Hpa.out.keep (l := [pl]) ?_ (by simp)⟩, HI.out.1, hQn.1, hQn.2⟩
        · (repeat' with_reducible (first | exact Keeps.refl _ _ | apply Keeps.drew | apply Keeps.drewN | (refine Keeps.setCell ?_ (by simp) _)))
        · rw [radr_on (by have := HI.out.2; show (Q.rd W).1.stage ≠ 6; omega)]
          exact Hob.out.pl_own _
        · (repeat' with_reducible (first | exact Keeps.refl _ _ | apply Keeps.drew | apply Keeps.drewN | (refine Keeps.setCell ?_ (by simp) _)))
      · rw [hd da2 dc2] at hdid
        have hc0 : wc.cell? ⟨rx, 0, none⟩ = some (.bool true) := hdid.cell 0
        have hc1 : wc.cell? ⟨rx, 1, none⟩ = some (.int .i64 1) := hdid.cell 1
        have hc2 : wc.cell? ⟨rx, 2, none⟩ = some (.slice none 0 0) := hdid.cell 2
        have HI := Lib.hid (And.intro hi hq)
        have hb1 : (Q.begun == 0) = true := by simpa using hb.1
        have hb2 : (Q.first == 0) = true := by simpa using hb.2.1
        have hb3 : (Q.last == 0) = true := by simpa using hb.2.2.1
        have hb4 : (Q.own + 1 == 4) = true := by simpa using hb.2.2.2
        have ho3 : Q.own + 1 < 40 := by omega
        clear hdid hd hi hq hb hx
        go_upto_region 5 with fail
        go_upto_region 8 with fail
        go_wp2_with fail
        go_ret
        refine ⟨rb', da2, dc2, Q.rnext W, rfl, below_keeps (l := [pl]) Hbel2.out ?_ (by simp; omega) hbase, ⟨?_, Hpa.out.keep (l := [pl]) ?_ (by simp)⟩, HI.out.1, hQn.1, hQn.2⟩
        · (repeat' with_reducible (first | exact Keeps.refl _ _ | apply Keeps.drew | apply Keeps.drewN | (refine Keeps.setCell ?_ (by simp) _)))
        · rw [radr_nil (by exact HI.out.2)]
          exact (Hob.out.pl_own _).pl_rv _
        · (repeat' with_reducible (first | exact Keeps.refl _ _ | apply Keeps.drew | apply Keeps.drewN | (refine Keeps.setCell ?_ (by simp) _)))
      · rw [hd da2 dc2] at hdid
        have hc0 : wc.cell? ⟨rx, 0, none⟩ = some (.bool true) := hdid.cell 0
        have hc1 : wc.cell? ⟨rx, 1, none⟩ = some (.int .i64 0) := hdid.cell 1
        have hc2 : wc.cell? ⟨rx, 2, none⟩ = some (.slice da2 ((k + 1 : Nat)) dc2) := hdid.cell 2
        have hrow := Hra.out.data
        have hx2 : (Q.rnext W).q.xs = List.replicate (k + 1) v := hx
        rw [hx2] at hrow
        rcases hrow.2 with ⟨e1, e2⟩ | ⟨g, gc, cur, e1, e2, hg, hg2⟩
        · simp at e2
        obtain ⟨rfl, rfl⟩ : da2 = some ⟨g, 0, none⟩ ∧ dc2 = gc := by
          have := e1
          simp only [List.length_replicate, Value.slice.injEq, true_and] at this
          exact this
        have hog : rown (some ⟨g, 0, none⟩) dc2 (Q.rnext W).q = some g := rfl
        have hgne := Hown2.out g hog
        have hcell : ∀ j : Nat, j < k + 1 → wc.cell? ⟨g, j, none⟩ = some (.int .u32 v) := by
          intro j hj
          have := hrow.cells (g := g) rfl j (.int .u32 v) (by simp [hj])
          rw [addr_add] at this
          simpa using this
        have Hcell := Lib.hid hcell
        have hc00 : wc.cell? ⟨g, 0, none⟩ = some (.int .u32 v) := hcell 0 (by omega)
        have HI := Lib.hid (And.intro hi (And.intro hq hx2))
        have hQ0 := HQ.out.nat
        have Hnn := Lib.hid (And.intro HQ.out.nat2 hnn)
        obtain ⟨hb1, hb2, hb3, hb4, hb5, hb6, hb7⟩ := hb
        have hgpl : g ≠ pl := hgne.1
        have hgpl' : pl ≠ g := hgne.1.symm
        have hm0 := Int.emod_nonneg v (show W ≠ 0 by omega)
        have hm1 := Int.emod_lt_of_pos v (show 0 < W by omega)
        have hk : k ≤ 15 := by omega
        have ho3 : Q.own + 1 ≤ 100 := by omega
        have Hb := Lib.hid (And.intro hb6 hb7)
        have hmq := HQ.out.nat2
        have hmv : v ≤ 10000 := by omega
        have hz : ¬ W = 0 := by omega
        have hz2 : (W == 0) = false := by simpa using hz
        have htm : v.tmod W = v % W := Int.tmod_eq_emod_of_nonneg (by omega)
        have hwn : IntKind.i64.wrap v = v := wrap_i64 (by omega) (by omega)
        have hwr : IntKind.i64.wrap (v % W) = v % W := wrap_i64 hm0 (by omega)
        have hwl : IntKind.i64.wrap (1 + v % W) = 1 + v % W := wrap_i64 (by omega) (by omega)
        have hv5 : IntKind.i64.wrap ((k : Int) + 1 + 5) = (k : Int) + 1 + 5 := wrap_i64 (by omega) (by omega)
        have hof : (Q.own + 1 != (k : Int) + 1 + 5) = false := by simpa using hb7
        have hlf : ((k : Int) + 1 == 1 + v % W) = true := by simpa using hb6
        have hk0 : ((k : Int) + 1 == 0) = false := by simp; omega
        have hvv : (v != v) = false := by simp
        clear hb6 hb7
        obtain ⟨cb', co', hca, hcl, hrow⟩ := Hpa.out.cfg.chans.resolve_left (by simp)
        cases hca
        have hch : wc.cell? ⟨cb, 3, none⟩ = some (.int .i64 W) := by simpa [chs] using hrow 0 (by simp) 3 (by omega)
        have hcpl : cb ≠ pl := (Hpa.out.pc cb (by simp [CfgV.blocks, blockOf])).1
        have hcpl' : pl ≠ cb := hcpl.symm
        clear hrow hcl
        go_upto_region 5 with fail
        go_upto_region 8 with fail
        go_upto_region 14 with fail
        have HB9 := Lib.hid ((Hob.out.pl_own (Q.own + 1)).pl_rv (.pointer none))
        have k9 : Keeps [pl] wc ((wc.setCell ⟨pl, 16, none⟩ (.int .i64 (Q.own + 1))).setCell ⟨pl, 8, none⟩ (.pointer none)) := by (repeat' with_reducible (first | exact Keeps.refl _ _ | apply Keeps.drew | apply Keeps.drewN | (refine Keeps.setCell ?_ (by simp) _)))
        have K9 := Lib.hid k9
        have hcell9 : ∀ j : Nat, j < k + 1 → ((wc.setCell ⟨pl, 16, none⟩ (.int .i64 (Q.own + 1))).setCell ⟨pl, 8, none⟩ (.pointer none)).cell? ⟨g, j, none⟩ = some (.int .u32 v) := fun j hj => by
          rw [k9.cell (lt_of_cell (Hcell.out j hj)) (by simpa using hgpl)]; exact Hcell.out j hj
        have Hcell9 := Lib.hid hcell9
        have hch9 : ((wc.setCell ⟨pl, 16, none⟩ (.int .i64 (Q.own + 1))).setCell ⟨pl, 8, none⟩ (.pointer none)).cell? ⟨cb, 3, none⟩ = some (.int .i64 W) := by
          rw [k9.cell (lt_of_cell hch) (by simpa using hcpl)]; exact hch
        have hg00 := hcell9 0 (by omega)
        clear k9 hcell9 hc0 hc1 hc2 hch hc00 hbc hbf hlt
        generalize (wc.setCell ⟨pl, 16, none⟩ (.int .i64 (Q.own + 1))).setCell ⟨pl, 8, none⟩ (.pointer none) = w9 at *
        have hbc := HB9.out.cell
        have hbf := HB9.out.frozen
        have hlt := HB9.out.lt
        go_wp2_with fail
        go_loop [130] (fun x => ∃ j : Nat, j ≤ k + 1 ∧ x = .int .i64 j) (fun x => k + 1 - (intOf x).toNat)
        case atStart => exact ⟨0, by omega, rfl⟩
        case round =>
          obtain ⟨j, hj, rfl⟩ := hrel
          by_cases hjl : j < k + 1
          · have hj1 : (j : Int) < (k : Int) + 1 := by omega
            have hj0 : (0 : Int) ≤ (j : Int) := Int.natCast_nonneg _
            have hcj := Hcell9.out j hjl
            go_wp2_with fail
            go_round
            case rel => exact ⟨j + 1, by omega, by go_num⟩
            case measure => simp [intOf]; omega
          · obtain rfl : j = k + 1 := by omega
            have hj1 : ¬ ((k : Int) + 1 < (k : Int) + 1) := by omega
            go_wp2_with fail
            go_ret
            refine ⟨rb', _, _, { Q.rnext W with last := v }, rfl, below_keeps (l := [pl]) Hbel2.out (Keeps.trans K9.out ?_) (by simp; omega) hbase, ⟨?_, (Hpa.out.keep (l := [pl]) (Keeps.trans K9.out ?_) (by simp)).counts rfl rfl rfl rfl⟩, HI.out.1, hQn.1, hQn.2⟩
            · (repeat' with_reducible (first | exact Keeps.refl _ _ | apply Keeps.drew | apply Keeps.drewN | (refine Keeps.setCell ?_ (by simp) _)))
            · rw [radr_nil (by exact HI.out.2.1)]
              exact HB9.out.pl_last _
            · (repeat' with_reducible (first | exact Keeps.refl _ _ | apply Keeps.drew | apply Keeps.drewN | (refine Keeps.setCell ?_ (by simp) _)))

end Go.Proofs.Ytpkjffiajidfcaa
