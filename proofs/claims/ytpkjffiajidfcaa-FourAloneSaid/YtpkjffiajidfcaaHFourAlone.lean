/- What every law of this seat hands in, but for its walk: it returned true, and left all that was there as it was. -/
import Derived.Test.YtpkjffiajidfcaaRows
import Derived.ProofKit
import Derived.OpenShut
import Derived.Carry
import Derived.Deep.Grids
import Derived.Test.YtpkjffiajidfcaaG11
import Derived.Test.YtpkjffiajidfcaaG10
import Derived.Deep.DeepCutAuto
import Derived.Deep.CutBlock
set_option linter.all false
set_option linter.unusedVariables false
set_option linter.unusedSimpArgs false

namespace Go.Proofs.Ytpkjffiajidfcaa
open Go.ChangeShapes Go.WideShapes Go.ChangeAt Go.RowKit

/-- The arguments read behind the call as they read before it. -/
theorem trodAll_behind {H : Type} {enc : TypeId × Value → H} {P : Program} (hl : laidOutB P = true) {W W' : World} (hb : Below W.heap.size W W') :
    ∀ {ts : List TypeId} {vs : List Value} {ds : List (DataW H)} {ps : List MemPlace}, (∀ t, t ∈ ts → P.readableRec t = true ∧ t < P.types.size) → DataW.TrodAll enc P W 0 (fun _ => true) true ts vs ds ps →
      (∀ p, p ∈ ps → p.block < W.heap.size) → DataW.TrodAll enc P W' 0 (fun b => decide (b < W.heap.size)) true ts vs ds ps
  | [], _, _, _, _, h, _ => by
    obtain ⟨rfl, rfl, rfl⟩ := trodAll_nil h
    exact trodAll_mk0
  | t :: ts, _, _, _, hr, h, hp => by
    obtain ⟨v, vs, d, ds, p, q, rfl, rfl, rfl, h1, h2⟩ := trodAll_cons h
    exact trodAll_cons_mk (Below.trod hl (hr t (by simp)).1 (hr t (by simp)).2 h1 hb (fun x hx => hp x (by simp [hx]))) (trodAll_behind hl hb (fun t ht => hr t (by simp [ht])) h2 (fun x hx => hp x (by simp [hx])))

/-- The row's end. -/
theorem law_post {H : Type} {enc : TypeId × Value → H} {P : Program} {f : Func} {s : ChangeSpec} {apart : Bool} {W W' : World} {args : Array Value} {ds gs : List (DataW H)} {before : List MemPlace} {t : TypeId}
    (hl : laidOutB P = true) (hr : ∀ t, t ∈ f.params.toList → P.readableRec t = true ∧ t < P.types.size) (hf : f.resultTypes = #[t]) (ht : P.underlying t = some .bool)
    (hW : DataW.Whole enc P f.params.toList s.vars apart W args.toList ds gs before) (hv : s.vars = []) (h1 : (s.fn H (ds ++ gs)).results = [.lit (.bool true)]) (h2 : (s.fn H (ds ++ gs)).args = ds) (h3 : (s.fn H (ds ++ gs)).vars = [])
    (hb : Below W.heap.size W W') : s.post enc P f apart true false false W args (.bool true) W' := by
  have hlt := fun (p : MemPlace) (hp : p ∈ before) => hW.lt p hp
  have hW0 := hW
  obtain ⟨p, q, hA, hV, he, _, _⟩ := hW
  rw [hv] at hV
  obtain ⟨rfl, rfl⟩ := trodVars_none hV
  simp only [List.append_nil] at he
  subst he
  refine ⟨ds, [], before, [], before, [], hW0, ?_, ?_, ?_, World.keptBut_mono (fun x hx => ⟨hx, .inr (.inl hx)⟩) (hb.frame (· ∈ before)), fun a => by cases a⟩
  · rw [h1, hf]
    exact trodAll_cons_mk (shut_bool ht _) trodAll_mk0
  · rw [h2]
    exact trodAll_behind hl hb hr hA hlt
  · rw [h3, hv]
    exact rfl

theorem law_own : ownKnob Try.prog.godebug = none := by kernel_rfl
theorem law_c4 : Try.prog.cellsOf 4 = 1 := by kernel_rfl
theorem law_laid : laidOutB Try.prog = true := by kernel_rfl
end Go.Proofs.Ytpkjffiajidfcaa

/- FourAtomic of the law, walked. -/
namespace Go.Proofs.Ytpkjffiajidfcaa
open Go.RowKit

/-- Where a play begins. -/
def PSt.start (W : Int) : PSt := ⟨List.replicate (13 + 4 * W).toNat 0, ⟨7, 0, 0, 0, false⟩, ⟨6, 0, 0, 0, 0, []⟩, 0, 0, 0, 0, 0, 0, 0, 0⟩

theorem PInv.start {W : Int} (hW : 1 ≤ W) : PInv W (PSt.start W) := by
  have z : ∀ i, rd (List.replicate (13 + 4 * W).toNat 0) i = 0 := rd_zero _
  refine ⟨by simp [PSt.start]; omega, MsOk.zero _, ⟨Int.le_refl 0, (by decide : (0 : Int) ≤ 4294967295)⟩, ?_, fun _ _ => 0, ?_⟩
  · show Core (rd (List.replicate (13 + 4 * W).toNat 0) 1) (rd (List.replicate (13 + 4 * W).toNat 0) _) (slotf (List.replicate (13 + 4 * W).toNat 0)) 7 0 0 6 0 0
    rw [z, z]
    exact { lat01 := .inl rfl, rdg01 := .inl rfl, slot01 := fun p _ => by unfold slotf; rw [z]; exact .inl rfl, wp01 := .inl rfl, wi01 := .inl rfl, rp01 := .inl rfl, ri01 := .inl rfl, stl := by omega, rsl := by omega, A := by omega, I := by omega, B := by omega, D := by omega, C := by omega }
  · show Cont W (rd (List.replicate (13 + 4 * W).toNat 0) 1) (slotf (List.replicate (13 + 4 * W).toNat 0)) (buff W (List.replicate (13 + 4 * W).toNat 0)) (fun _ _ => 0) 7 0 0 0 false 6 0 0 0 [] 0 0 0 0 0 0 0 0
    exact { holds := fun p j _ _ _ => ⟨Int.le_refl _, fun _ => by unfold buff; exact z _, by omega, by omega⟩, part3 := by omega, part4 := by omega, i0 := by omega, i3 := by omega, i4 := by omega, s5 := by omega, s6 := by omega, cur := rfl, le := fun _ _ _ => Int.le_refl _, cnt5 := by omega, cnt6 := by omega, cnt7 := fun _ => ⟨rfl, rfl⟩, st3 := by omega, st4 := by omega, st5 := by omega, st6 := by omega, n0 := by omega, n1 := by omega, mkd := by omega, l0 := by omega, rA := by omega, r6 := fun _ => Int.le_refl _, r12 := by omega, r3 := by omega, r45 := by omega, x4 := by omega, x5 := by omega, o4 := by omega, o5 := by omega }

/-- What a law leaves: true, and all that was there as it was. -/
def LawTo (w : World) (e : Ending) (w' : World) : Prop := e = .returned (.bool true) ∧ Below w.heap.size w w'

/-- A play that has begun in memory of its own. -/
def PlayOn (base : Nat) (c : CfgV) (pl bm bw : Nat) (W per : Int) (k : Int) (w wr : World) : Prop :=
  ∃ wb wbd cap rb da dc P, PlayAt wr base c pl bm bw wb wbd cap rb da dc W per P ∧ PInv W P ∧ P.n ≤ k ∧ Below base w wr

set_option maxRecDepth 100000 in
set_option maxHeartbeats 8000000 in
theorem FourAtomic_any (u : Int) (hu0 : 0 ≤ u) (hu1 : u ≤ 255) (sa : Option Addr) (n c : Nat) (B : Nat → Bool) (hn : n ≤ 9223372036854775807) (w : World)
    (hc : ∀ i, i < n → ∃ b o, sa = some ⟨b, o, none⟩ ∧ w.cell? ⟨b, o + i, none⟩ = some (.bool (B i))) :
    Calls Try.prog 3 #[.int .u8 u, .slice sa n c] w (LawTo w) := by
  have Hc := Lib.hid hc
  clear hc
  by_cases hbig : n > 600
  · have hb1 : (600 : Int) < (n : Int) := by omega
    go_enter Try.func3, Try.ntmps3
    go_wp2_with (first | (go_at_call 7; (with_reducible refine (wakes_any _).mono ?_); rintro e w0 ⟨rfl, hk0⟩) | (fail))
    go_ret
    exact ⟨rfl, below_keeps (Below.refl _ _) hk0 (by simp) (Nat.le_refl _)⟩
  · have hb1 : ¬ (600 : Int) < (n : Int) := by omega
    have hu4 : u.tmod 4 = u % 4 := Int.tmod_eq_emod_of_nonneg hu0
    have hm0 := Int.emod_nonneg u (show (4 : Int) ≠ 0 by decide)
    have hm1 := Int.emod_lt_of_pos u (show (0 : Int) < 4 by decide)
    have hw1 : IntKind.i64.wrap u = u := wrap_i64 (by omega) (by omega)
    have hw2 : IntKind.i64.wrap (u % 4) = u % 4 := wrap_i64 (by omega) (by omega)
    have hw3 : IntKind.i64.wrap (1 + u % 4) = 1 + u % 4 := wrap_i64 (by omega) (by omega)
    go_enter Try.func3, Try.ntmps3
    go_wp2_with (first | (go_at_call 7; (with_reducible refine (wakes_any _).mono ?_); rintro e w0 ⟨rfl, hk0⟩) | (go_at_call 8; (with_reducible refine (two_any (1 + u % 4) 5 _ (by omega) (by omega) (by omega) (by omega)).mono ?_); rintro e w1 ⟨pb, cb, f0, f1, rfl, hk1, hC1, hbl1⟩; have hacc := two_acc pb cb f0 f1 (1 + u % 4) 5 (by omega) (by omega) (by omega) (by omega); have HC1 := Lib.hid hC1; clear hC1; have HK1 := Lib.hid (hk0.trans hk1 : Keeps [] w w1); have hz1 := hk1.size; clear hk1; simp only [CfgV.cells]) | (go_at_call 10; (with_reducible refine (refSize_any (twoC pb cb f0 f1 (1 + u % 4) 5) hacc _ (HC1.out.kept (by (repeat' with_reducible (first | exact Keeps.refl _ _ | assumption | apply Keeps.drew | apply Keeps.drewN | apply Keeps.alloc))))).mono ?_); rintro e w2 ⟨rfl, hk2⟩; rw [two_b1]; have B1 : Blk w2 w1.heap.size (twoC pb cb f0 f1 (1 + u % 4) 5).cells 31 := Blk.keep (l := []) (by (repeat' (first | with_reducible (first | assumption | apply Blk.drew | (refine Blk.newAt ?_; first | rfl | (simp; done)) | apply Blk.alloc)))) hk2 (by simp); have HB1 := Lib.hid B1; clear B1) | (go_at_call 9; (with_reducible refine (New_at ((13 + 4 * (1 + u % 4)).toNat) _ (by omega) _ (by omega)).mono ?_); rintro e w3 ⟨bm, bw, rfl, hk3, hbm, hbw, hM3⟩; have B3 := HB1.out.keep hk3 (by simp); have C3 := B3.cell; have L3 := B3.lt; have HB3 := Lib.hid B3; clear B3; have HC3 := Lib.hid (HC1.out.kept (Keeps.trans (Keeps.trans (by (repeat' with_reducible (first | exact Keeps.refl _ _ | assumption | apply Keeps.drew | apply Keeps.drewN | apply Keeps.alloc))) hk2) hk3)); have HM3 := Lib.hid hM3; clear hM3; have HK3 := Lib.hid (Keeps.trans HK1.out (Keeps.trans (Keeps.trans (by (repeat' with_reducible (first | exact Keeps.refl _ _ | assumption | apply Keeps.drew | apply Keeps.drewN | apply Keeps.alloc))) hk2) hk3) : Keeps [] w w3)) | (fail))
    have hs3 := HK3.out.size
    have hz0 := hk0.size
    have hz2 := hk2.size
    simp at hz2
    have HP0 : Hid (PlayOn w.heap.size (twoC pb cb f0 f1 (1 + u % 4) 5) w3.heap.size bm bw (1 + u % 4) 5 0 w (w3.alloc (.cells (plCells (twoC pb cb f0 f1 (1 + u % 4) 5) bm (.pointer none) (.pointer none) 0 0 0 0 0 0 0 0) 43))) := by
      refine Lib.hid ⟨0, 0, 0, 0, none, 0, PSt.start (1 + u % 4), ⟨Blk.new _ _ _, ⟨HM3.out.alloc _, HC3.out.alloc _, ?_, ⟨by omega, by omega, by omega⟩, ?_, ?_, fun a => absurd rfl a, fun a => absurd rfl a, fun a _ => absurd rfl a⟩⟩, PInv.start (by omega), Int.le_refl _, below_keeps (l := []) (Below.refl _ _) (HK3.out.alloc _) (by simp) (Nat.le_refl _)⟩
      · intro x hx; have := two_blk HC3.out x hx; simp; omega
      · have := HM3.out.hm.lt; have := HM3.out.hw.lt; omega
      · intro x hx
        have a1 := two_blk HC3.out x hx
        have a2 := two_blk HC1.out x hx
        omega
    clear hbl1 hk0 hk2 hk3 C3 L3 HB3 HC1 HC3 HM3 HK1 HK3 HB1 hbm hbw hs3 hz1 hz2
    go_loopw [39] (fun x wr => ∃ i : Nat, i ≤ n ∧ x = .int .i64 i ∧ PlayOn w.heap.size (twoC pb cb f0 f1 (1 + u % 4) 5) w3.heap.size bm bw (1 + u % 4) 5 i w wr) (fun x _ => n - (intOf x).toNat)
    case atStart => exact ⟨0, by omega, rfl, HP0.out⟩
    case round =>
      obtain ⟨i, hi, rfl, wb, wbd, cap, rb, da, dc, P, hP, hI, hPn, hB⟩ := hrel
      have HP := Lib.hid hP
      have HI := Lib.hid hI
      have HB := Lib.hid hB
      have hbs := hB.size
      clear hP hI hB
      by_cases hin : i < n
      · obtain ⟨ab, ao, rfl, hcl⟩ := Hc.out i hin
        have hcr : wr.cell? ⟨ab, ao + i, none⟩ = some (.bool (B i)) := (HB.out.cell (p := ⟨ab, ao + i, none⟩) (lt_of_cell hcl)).trans hcl
        have hi1 : (i : Int) < (n : Int) := by omega
        have hi0 : (0 : Int) ≤ (i : Int) := Int.natCast_nonneg _
        have hi6 : (i : Int) ≤ 600 := by omega
        clear hcl
        cases hBi : B i
        · rw [hBi] at hcr
          go_wp2_with (first | (go_at_call 12; (with_reducible refine (read_any w.heap.size w3.heap.size pb cb f0 f1 bm bw wb wbd cap rb da dc (1 + u % 4) 5 _ P _ HP.out hbs HI.out (by omega) (by omega) hacc (by omega) (by omega) (by omega)).mono ?_); rintro e w5 ⟨rb', da', dc', Q, rfl, hb5, hP5, hI5, hQn, hQs⟩; have HR5 := Lib.hid (And.intro hb5 (And.intro hP5 hI5)); clear hb5 hP5 hI5) | (fail))
          go_roundw
          case rel => exact ⟨i + 1, by omega, by go_num, wb, wbd, cap, rb', da', dc', Q, HR5.out.2.1, HR5.out.2.2, by omega, HB.out.trans HR5.out.1⟩
          case measure => simp [intOf]; omega
        · rw [hBi] at hcr
          go_wp2_with (first | (go_at_call 11; (with_reducible refine (write_any w.heap.size w3.heap.size pb cb f0 f1 bm bw wb wbd cap rb da dc (1 + u % 4) 5 _ P _ HP.out hbs HI.out (by omega) (by omega) hacc (by omega) (by omega) (by omega)).mono ?_); rintro e w5 ⟨wb', wbd', cap', rfl, hb5, hP5⟩; have HR5 := Lib.hid (And.intro hb5 hP5); clear hb5 hP5) | (fail))
          go_roundw
          case rel =>
            obtain ⟨q1, q2, q3⟩ := HI.out.wnew
            exact ⟨i + 1, by omega, by go_num, wb', wbd', cap', rb, da, dc, _, HR5.out.2, (q1.write (by omega) (by omega) q2 _ hi0 (by omega) (by omega)).1, by show P.wnew.n ≤ _; omega, HB.out.trans HR5.out.1⟩
          case measure => simp [intOf]; omega
      · obtain rfl : i = n := by omega
        have hi1 : ¬ (i : Int) < (i : Int) := by omega
        go_wp2_with fail
        go_ret
        exact ⟨rfl, HB.out⟩

end Go.Proofs.Ytpkjffiajidfcaa

/- The plain law of FourApart: the buffer that is being filled is never the one that is being read. -/
namespace Go.Proofs.Ytpkjffiajidfcaa

/-- The memory, the write and the read; the buffer that is being filled, that is being read, the steps left to fill it. -/
structure ASt where
  ms : List Int
  s : WSt
  q : RSt
  fills : Int
  reads : Int
  left : Int

structure AInv (W : Int) (k : Int) (P : ASt) : Prop where
  len : (P.ms.length : Int) = 13 + 4 * W
  ok : MsOk P.ms
  stamp : 0 ≤ P.q.stamp ∧ P.q.stamp ≤ 4294967295
  core : Core (rd P.ms 1) (rd P.ms (12 + 4 * W).toNat) (slotf P.ms) P.s.stage P.s.pair P.s.index P.q.stage P.q.pair P.q.index
  i0 : 0 ≤ P.s.i
  i3 : P.s.stage ≤ 3 → P.s.i = 0
  i4 : P.s.stage = 4 → P.s.i < W
  x4 : P.q.stage ≤ 4 → P.q.xs = []
  l4 : P.q.stage = 4 → 0 < P.q.left ∧ P.q.left ≤ W
  l5 : P.q.stage = 5 → (P.q.xs.length : Int) < P.q.left ∧ P.q.left ≤ W
  f3 : P.s.stage = 3 → P.fills = 1 + (2 * P.s.pair + P.s.index) ∧ P.left = W + 1
  f4 : P.s.stage = 4 → P.fills = 1 + (2 * P.s.pair + P.s.index) ∧ P.left = W - P.s.i
  f0 : P.s.stage ≠ 3 → P.s.stage ≠ 4 → P.fills = 0 ∧ P.left ≤ 0
  fl : - k ≤ P.left
  r4 : P.q.stage = 4 ∨ P.q.stage = 5 → P.reads = 1 + (2 * P.q.pair + P.q.index)
  r0 : P.q.stage ≠ 4 → P.q.stage ≠ 5 → P.reads = 0

/-- Never the same. -/
theorem AInv.apart {W k : Int} {P : ASt} (h : AInv W k P) : ¬ (0 < P.fills ∧ P.fills = P.reads) := by
  rintro ⟨a, b⟩
  by_cases c : P.s.stage = 3 ∨ P.s.stage = 4
  · by_cases d : P.q.stage = 4 ∨ P.q.stage = 5
    · have e := h.r4 d
      have f : P.fills = 1 + (2 * P.s.pair + P.s.index) := by rcases c with c | c; exact (h.f3 c).1; exact (h.f4 c).1
      have w1 := h.core.wp01
      have w2 := h.core.wi01
      have w3 := h.core.rp01
      have w4 := h.core.ri01
      unfold Bit at w1 w2 w3 w4
      refine h.core.apart (by omega) (by omega) (by omega) (by omega) ⟨?_, ?_⟩ <;> omega
    · have := h.r0 (by omega) (by omega); omega
  · have := h.f0 (by omega) (by omega); omega

theorem AInv.geo {W k : Int} {P : ASt} (h : AInv W k P) (hW : 1 ≤ W) (hW' : W ≤ 16) : Geo 1 (12 + 4 * W) W P.ms := by
  have := h.len
  exact ⟨by omega, by omega, by omega, by omega, by omega, by omega⟩

theorem AInv.wok {W k : Int} {P : ASt} (h : AInv W k P) {n : Nat} (hn : (n : Int) = W) (hW : 1 ≤ W) : WOk W n P.s := by
  have a := h.core.wp01
  have b := h.core.wi01
  unfold Bit at a b
  refine ⟨by omega, by omega, by omega, by omega, h.i0, fun c => ?_, by omega⟩
  by_cases d : P.s.stage = 4
  · have := h.i4 d; omega
  · have := h.i3 (by omega); omega

theorem AInv.rok {W k : Int} {P : ASt} (h : AInv W k P) : ROk W P.q := by
  have a := h.core.rp01
  have b := h.core.ri01
  unfold Bit at a b
  exact ⟨by omega, by omega, by omega, by omega, fun c => (h.l5 c).1, fun c => (h.l5 c).2, h.stamp.1, h.stamp.2⟩

theorem AInv.begin {W k : Int} {P : ASt} (h : AInv W k P) (hW : 1 ≤ W) (hs : P.s.stage = 7) : AInv W k { P with s := ⟨0, 0, 0, 0, false⟩ } := by
  obtain ⟨len, ok, stamp, core, i0, i3, i4, x4, l4, l5, f3, f4, f0, fl, r4, r0⟩ := h
  rw [hs] at core
  exact ⟨len, ok, stamp, core.begin, Int.le_refl 0, fun _ => rfl, fun a => absurd a (show ¬ 0 = 4 by decide), x4, l4, l5, fun a => absurd a (show ¬ 0 = 3 by decide), fun a => absurd a (show ¬ 0 = 4 by decide), fun _ _ => f0 (by omega) (by omega), fl, r4, r0⟩

theorem AInv.beginR {W k : Int} {P : ASt} (h : AInv W k P) (hs : P.q.stage = 6) : AInv W k { P with q := ⟨0, 0, 0, 0, 0, []⟩ } := by
  obtain ⟨len, ok, stamp, core, i0, i3, i4, x4, l4, l5, f3, f4, f0, fl, r4, r0⟩ := h
  rw [hs] at core
  exact ⟨len, ok, ⟨Int.le_refl 0, (by decide : (0 : Int) ≤ 4294967295)⟩, core.beginR, i0, i3, i4, fun _ => rfl, fun a => absurd a (show ¬ 0 = 4 by decide), fun a => absurd a (show ¬ 0 = 5 by decide), f3, f4, f0, fl, fun a => absurd a (show ¬ (0 = 4 ∨ 0 = 5) by decide), fun _ _ => r0 (by omega) (by omega)⟩

/-- What the law makes of a step of the write. -/
def afill (n : Int) (d : DidV) (f l : Int) : Int × Int :=
  let f' := if 0 < d.buffer then d.buffer else f
  let l' := (if 0 < d.buffer then n + 2 else l) - 1
  (if l' ≤ 0 then 0 else f', l')

def ASt.wr (W : Int) (n : Nat) (P : ASt) (now : Int) : DidV × WSt × List Int := wstep 1 (12 + 4 * W) W n (List.replicate n 0) P.s P.ms now
def ASt.wnext (W : Int) (n : Nat) (P : ASt) (now : Int) : ASt :=
  { P with ms := (P.wr W n now).2.2, s := (P.wr W n now).2.1, fills := (afill n (P.wr W n now).1 P.fills P.left).1, left := (afill n (P.wr W n now).1 P.fills P.left).2 }

def ASt.rd (W : Int) (P : ASt) : RSt × List Int := rstep 1 (12 + 4 * W) W P.q P.ms
def ASt.rnext (W per : Int) (P : ASt) (now : Int) : ASt :=
  { P with ms := (P.rd W).2, q := (P.rd W).1, reads := if (rdid 1 W per P.q P.ms now none 0).done then 0 else if 0 < (rdid 1 W per P.q P.ms now none 0).buffer then (rdid 1 W per P.q P.ms now none 0).buffer else P.reads }

theorem rd_rep (n j : Nat) : rd (List.replicate n 0) j = 0 := rd_zero n j

theorem AInv.write {W k : Int} {P : ASt} (h : AInv W k P) {n : Nat} (hn : (n : Int) = W) (hW : 1 ≤ W) (hs : P.s.stage ≤ 6) (now : Int) (hn0 : 0 ≤ now) (hn1 : now ≤ 4294967295) (hW' : W ≤ 16) (hk : 0 ≤ k) :
    AInv W (k + 1) (P.wnext W n now) ∧ ((P.wr W n now).1.done = true ↔ (P.wr W n now).2.1.stage = 7) := by
  obtain ⟨ms, ⟨st, wp, wi, i, mk⟩, q, fills, reads, left⟩ := P
  obtain ⟨len, ok, stamp, core, i0, i3, i4, x4, l4, l5, f3, f4, f0, fl, r4, r0⟩ := h
  dsimp only at len ok stamp core i0 i3 i4 x4 l4 l5 f3 f4 f0 fl r4 r0 hs
  have w01 := core.wp01
  have i01 := core.wi01
  have l01 := core.lat01
  have r01 := core.rp01
  have b0 : (0 : Int) < 1 + (2 * wp + wi) := by unfold Bit at w01 i01; omega
  match st, hs with
  | 0, _ =>
    have e : ASt.wr W n ⟨ms, ⟨0, wp, wi, i, mk⟩, q, fills, reads, left⟩ now = ({}, ⟨1, 1 - rd ms (12 + 4 * W).toNat % 2, wi, i, mk⟩, ms) := rfl
    refine ⟨?_, by rw [e]; simp⟩
    unfold ASt.wnext; rw [e]
    have z := f0 (by decide) (by decide)
    exact ⟨len, ok, stamp, core.choose rfl, i0, fun _ => i3 (by decide), fun a => absurd a (show ¬ 1 = 4 by decide), x4, l4, l5, fun a => absurd a (show ¬ 1 = 3 by decide), fun a => absurd a (show ¬ 1 = 4 by decide), fun _ _ => by dsimp only [afill]; simp; omega, by dsimp only [afill]; simp; omega, r4, r0⟩
  | 1, _ =>
    have e : ASt.wr W n ⟨ms, ⟨1, wp, wi, i, mk⟩, q, fills, reads, left⟩ now = ({}, ⟨2, wp, 1 - slotf ms wp % 2, i, mk⟩, ms) := rfl
    refine ⟨?_, by rw [e]; simp⟩
    unfold ASt.wnext; rw [e]
    have z := f0 (by decide) (by decide)
    exact ⟨len, ok, stamp, core.other rfl, i0, fun _ => i3 (by decide), fun a => absurd a (show ¬ 2 = 4 by decide), x4, l4, l5, fun a => absurd a (show ¬ 2 = 3 by decide), fun a => absurd a (show ¬ 2 = 4 by decide), fun _ _ => by dsimp only [afill]; simp; omega, by dsimp only [afill]; simp; omega, r4, r0⟩
  | 2, _ =>
    have e : ASt.wr W n ⟨ms, ⟨2, wp, wi, i, mk⟩, q, fills, reads, left⟩ now = ({ buffer := 1 + (2 * wp + wi) }, ⟨3, wp, wi, i, mk⟩, ms.set (bufAt 1 W wp wi + 0).toNat n) := by
      unfold ASt.wr; simp only [wstep, Int.add_zero]
    refine ⟨?_, by rw [e]; simp⟩
    unfold ASt.wnext; rw [e]
    have k1 : (0 : Int) ≤ 0 := by omega
    have k2 : (0 : Int) < 2 + W := by omega
    refine ⟨by simpa using len, ok.set (by omega) (by omega) _, stamp, ?_, i0, fun _ => i3 (by decide), fun a => absurd a (show ¬ 3 = 4 by decide), x4, l4, l5, fun _ => ?_, fun a => absurd a (show ¬ 3 = 4 by decide), fun a => absurd rfl a, ?_, r4, r0⟩
    · dsimp only
      rw [set_buf_lat len hW w01 i01 k1 k2, set_buf_rdg len hW w01 i01 k1 k2]
      exact (core.fill (by omega) (by omega) (by omega) (by omega)).congr (set_buf_slot len hW w01 i01 k1 k2)
    · dsimp only [afill]; rw [if_pos b0, if_pos b0]; rw [if_neg (by omega)]; exact ⟨rfl, by omega⟩
    · dsimp only [afill]; rw [if_pos b0]; omega
  | 3, _ =>
    have e : ASt.wr W n ⟨ms, ⟨3, wp, wi, i, mk⟩, q, fills, reads, left⟩ now = ({ stamped := true }, ⟨4, wp, wi, i, mk⟩, ms.set (bufAt 1 W wp wi + 1).toNat now) := rfl
    refine ⟨?_, by rw [e]; simp⟩
    unfold ASt.wnext; rw [e]
    have k1 : (0 : Int) ≤ 1 := by omega
    have k2 : (1 : Int) < 2 + W := by omega
    have z := f3 rfl
    have z2 := i3 (by decide)
    refine ⟨by simpa using len, ok.set (by omega) (by omega) _, stamp, ?_, i0, fun a => absurd a (show ¬ 4 ≤ 3 by decide), fun _ => by dsimp only; omega, x4, l4, l5, fun a => absurd a (show ¬ 4 = 3 by decide), fun _ => ?_, fun _ a => absurd rfl a, ?_, r4, r0⟩
    · dsimp only
      rw [set_buf_lat len hW w01 i01 k1 k2, set_buf_rdg len hW w01 i01 k1 k2]
      exact (core.fill (by omega) (by omega) (by omega) (by omega)).congr (set_buf_slot len hW w01 i01 k1 k2)
    · dsimp only [afill]; simp only [Int.lt_irrefl, if_false]; rw [if_neg (by omega)]; exact ⟨z.1, by omega⟩
    · dsimp only [afill]; simp only [Int.lt_irrefl, if_false]; omega
  | 4, _ =>
    have j1 := i4 rfl
    have k1 : (0 : Int) ≤ 2 + i := by omega
    have k2 : 2 + i < 2 + W := by omega
    have z := f4 rfl
    have hx : rd (List.replicate n 0) i.toNat = 0 := rd_rep _ _
    by_cases more : i + 1 < (n : Int)
    · have e : ASt.wr W n ⟨ms, ⟨4, wp, wi, i, mk⟩, q, fills, reads, left⟩ now = ({}, ⟨4, wp, wi, i + 1, mk⟩, ms.set (bufAt 1 W wp wi + (2 + i)).toNat 0) := by
        unfold ASt.wr; simp only [wstep, hx, if_pos more, Int.add_assoc]
      refine ⟨?_, by rw [e]; simp⟩
      unfold ASt.wnext; rw [e]
      refine ⟨by simpa using len, ok.set (by omega) (by omega) _, stamp, ?_, by dsimp only; omega, fun a => absurd a (show ¬ 4 ≤ 3 by decide), fun _ => by dsimp only; omega, x4, l4, l5, fun a => absurd a (show ¬ 4 = 3 by decide), fun _ => ?_, fun _ a => absurd rfl a, ?_, r4, r0⟩
      · dsimp only
        rw [set_buf_lat len hW w01 i01 k1 k2, set_buf_rdg len hW w01 i01 k1 k2]
        exact (core.fill (by omega) (by omega) (by omega) (by omega)).congr (set_buf_slot len hW w01 i01 k1 k2)
      · dsimp only [afill]; simp only [Int.lt_irrefl, if_false]; rw [if_neg (by omega)]; exact ⟨z.1, by omega⟩
      · dsimp only [afill]; simp only [Int.lt_irrefl, if_false]; omega
    · have e : ASt.wr W n ⟨ms, ⟨4, wp, wi, i, mk⟩, q, fills, reads, left⟩ now = ({}, ⟨5, wp, wi, i + 1, mk⟩, ms.set (bufAt 1 W wp wi + (2 + i)).toNat 0) := by
        unfold ASt.wr; simp only [wstep, hx, if_neg more, Int.add_assoc]
      refine ⟨?_, by rw [e]; simp⟩
      unfold ASt.wnext; rw [e]
      refine ⟨by simpa using len, ok.set (by omega) (by omega) _, stamp, ?_, by dsimp only; omega, fun a => absurd a (show ¬ 5 ≤ 3 by decide), fun a => absurd a (show ¬ 5 = 4 by decide), x4, l4, l5, fun a => absurd a (show ¬ 5 = 3 by decide), fun a => absurd a (show ¬ 5 = 4 by decide), fun _ _ => ?_, ?_, r4, r0⟩
      · dsimp only
        rw [set_buf_lat len hW w01 i01 k1 k2, set_buf_rdg len hW w01 i01 k1 k2]
        exact (core.fill (by omega) (by omega) (by omega) (by omega)).congr (set_buf_slot len hW w01 i01 k1 k2)
      · dsimp only [afill]; simp only [Int.lt_irrefl, if_false]; rw [if_pos (by omega)]; exact ⟨rfl, by omega⟩
      · dsimp only [afill]; simp only [Int.lt_irrefl, if_false]; omega
  | 5, _ =>
    have e : ASt.wr W n ⟨ms, ⟨5, wp, wi, i, mk⟩, q, fills, reads, left⟩ now = ({ mark := rd ms 1 % 2 == wp }, ⟨6, wp, wi, i, rd ms 1 % 2 == wp⟩, ms.set (1 + 1 + wp).toNat wi) := rfl
    refine ⟨?_, by rw [e]; simp⟩
    unfold ASt.wnext; rw [e]
    have z := f0 (by decide) (by decide)
    refine ⟨by simpa using len, ok.set (by unfold Bit at i01; omega) (by unfold Bit at i01; omega) _, stamp, ?_, i0, fun a => absurd a (show ¬ 6 ≤ 3 by decide), fun a => absurd a (show ¬ 6 = 4 by decide), x4, l4, l5, fun a => absurd a (show ¬ 6 = 3 by decide), fun a => absurd a (show ¬ 6 = 4 by decide), fun _ _ => by dsimp only [afill]; simp; omega, by dsimp only [afill]; simp; omega, r4, r0⟩
    dsimp only
    rw [set_slot_lat len hW w01, set_slot_rdg len hW w01]
    exact core.show (set_slot_slot len hW w01)
  | 6, _ =>
    have e : ASt.wr W n ⟨ms, ⟨6, wp, wi, i, mk⟩, q, fills, reads, left⟩ now = ({ done := true, mark := !mk }, ⟨7, wp, wi, i, mk⟩, ms.set 1 wp) := rfl
    refine ⟨?_, by rw [e]; simp⟩
    unfold ASt.wnext; rw [e]
    have z := f0 (by decide) (by decide)
    refine ⟨by simpa using len, ok.set (by unfold Bit at w01; omega) (by unfold Bit at w01; omega) _, stamp, ?_, i0, fun a => absurd a (show ¬ 7 ≤ 3 by decide), fun a => absurd a (show ¬ 7 = 4 by decide), x4, l4, l5, fun a => absurd a (show ¬ 7 = 3 by decide), fun a => absurd a (show ¬ 7 = 4 by decide), fun _ _ => by dsimp only [afill]; simp; omega, by dsimp only [afill]; simp; omega, r4, r0⟩
    dsimp only
    rw [set_lat_lat len hW, set_lat_rdg len hW]
    exact core.end.congr (set_lat_slot len hW)
  | k + 7, h => omega

theorem AInv.read {W k : Int} {P : ASt} (h : AInv W k P) (hW : 1 ≤ W) (hs : P.q.stage ≤ 5) (per now : Int) (hk : 0 ≤ k) :
    AInv W (k + 1) (P.rnext W per now) ∧ ((rdid 1 W per P.q P.ms now none 0).done = true ↔ (P.rd W).1.stage = 6) := by
  obtain ⟨ms, s, ⟨rs, rp, ri, lf, sp, xs⟩, fills, reads, left⟩ := P
  obtain ⟨len, ok, stamp, core, i0, i3, i4, x4, l4, l5, f3, f4, f0, fl, r4, r0⟩ := h
  dsimp only at len ok stamp core i0 i3 i4 x4 l4 l5 f3 f4 f0 fl r4 r0 hs
  have w01 := core.rp01
  have i01 := core.ri01
  have fl' : - (k + 1) ≤ left := by omega
  have b0 : (0 : Int) < 1 + (2 * rp + ri) := by unfold Bit at w01 i01; omega
  match rs, hs with
  | 0, _ => exact ⟨⟨len, ok, stamp, core.latest rfl, i0, i3, i4, fun _ => x4 (by decide), fun a => absurd a (show ¬ 1 = 4 by decide), fun a => absurd a (show ¬ 1 = 5 by decide), f3, f4, f0, fl', fun a => absurd a (show ¬ (1 = 4 ∨ 1 = 5) by decide), fun _ _ => r0 (by decide) (by decide)⟩, by simp [rdid, ASt.rd, rstep]⟩
  | 1, _ =>
    refine ⟨⟨by simpa [ASt.rnext, ASt.rd, rstep] using len, ok.set (v := rp) (by unfold Bit at w01; omega) (by unfold Bit at w01; omega) _, stamp, ?_, i0, i3, i4, fun _ => x4 (by decide), fun a => absurd a (show ¬ 2 = 4 by decide), fun a => absurd a (show ¬ 2 = 5 by decide), f3, f4, f0, fl', fun a => absurd a (show ¬ (2 = 4 ∨ 2 = 5) by decide), fun _ _ => r0 (by decide) (by decide)⟩, by simp [rdid, ASt.rd, rstep]⟩
    show Core (rd (ms.set (12 + 4 * W).toNat rp) 1) (rd (ms.set (12 + 4 * W).toNat rp) (12 + 4 * W).toNat) (slotf (ms.set (12 + 4 * W).toNat rp)) _ _ _ _ _ _
    rw [set_rdg_lat len hW, set_rdg_rdg len hW]
    exact core.tell.congr (set_rdg_slot len hW)
  | 2, _ => exact ⟨⟨len, ok, stamp, core.newer rfl, i0, i3, i4, fun _ => x4 (by decide), fun a => absurd a (show ¬ 3 = 4 by decide), fun a => absurd a (show ¬ 3 = 5 by decide), f3, f4, f0, fl', fun a => absurd a (show ¬ (3 = 4 ∨ 3 = 5) by decide), fun _ _ => r0 (by decide) (by decide)⟩, by simp [rdid, ASt.rd, rstep]⟩
  | 3, _ =>
    have z := r0 (by decide) (by decide)
    have pos := (ok (bufAt 1 W rp ri).toNat).1
    by_cases hz : rd ms (bufAt 1 W rp ri).toNat = 0
    · have e : ASt.rd W ⟨ms, s, ⟨3, rp, ri, lf, sp, xs⟩, fills, reads, left⟩ = (⟨6, rp, ri, lf, sp, xs⟩, ms) := by simp [ASt.rd, rstep, hz]
      have e2 : rdid 1 W per ⟨3, rp, ri, lf, sp, xs⟩ ms now none 0 = { done := true, code := 1, buffer := 1 + (2 * rp + ri) } := by simp [rdid, hz]
      refine ⟨?_, by rw [e]; dsimp only; rw [e2]; simp⟩
      unfold ASt.rnext; rw [e]; dsimp only; rw [e2]
      exact ⟨len, ok, stamp, core.look (rs' := 6) (by decide) (by decide) (by decide) (by decide), i0, i3, i4, fun a => absurd a (show ¬ 6 ≤ 4 by decide), fun a => absurd a (show ¬ 6 = 4 by decide), fun a => absurd a (show ¬ 6 = 5 by decide), f3, f4, f0, fl', fun a => absurd a (show ¬ (6 = 4 ∨ 6 = 5) by decide), fun _ _ => rfl⟩
    · have e : ASt.rd W ⟨ms, s, ⟨3, rp, ri, lf, sp, xs⟩, fills, reads, left⟩ = (⟨4, rp, ri, if rd ms (bufAt 1 W rp ri).toNat ≤ W then rd ms (bufAt 1 W rp ri).toNat else W, sp, xs⟩, ms) := by simp [ASt.rd, rstep, hz]
      have e2 : rdid 1 W per ⟨3, rp, ri, lf, sp, xs⟩ ms now none 0 = { buffer := 1 + (2 * rp + ri) } := by simp [rdid, hz]
      refine ⟨?_, by rw [e]; dsimp only; rw [e2]; simp⟩
      unfold ASt.rnext; rw [e]; dsimp only; rw [e2]
      exact ⟨len, ok, stamp, core.look (rs' := 4) (by decide) (by decide) (by decide) (by decide), i0, i3, i4, fun _ => x4 (by decide), fun _ => by dsimp only; split <;> omega, fun a => absurd a (show ¬ 4 = 5 by decide), f3, f4, f0, fl', fun _ => by simp; omega, fun a => absurd rfl a⟩
  | 4, _ =>
    have z := r4 (.inl rfl)
    have y := x4 (by decide)
    subst y
    have g := l4 rfl
    exact ⟨⟨len, ok, ok _, core.look (rs' := 5) (by decide) (by decide) (by decide) (by decide), i0, i3, i4, fun a => absurd a (show ¬ 5 ≤ 4 by decide), fun a => absurd a (show ¬ 5 = 4 by decide), fun _ => ⟨by simpa [ASt.rnext, ASt.rd, rstep] using g.1, g.2⟩, f3, f4, f0, fl', fun _ => z, fun _ a => absurd rfl a⟩, by simp [rdid, ASt.rd, rstep]⟩
  | 5, _ =>
    have z := r4 (.inr rfl)
    have g := l5 rfl
    by_cases more : (xs.length : Int) + 1 < lf
    · have e : ASt.rd W ⟨ms, s, ⟨5, rp, ri, lf, sp, xs⟩, fills, reads, left⟩ = (⟨5, rp, ri, lf, sp, xs ++ [rd ms (bufAt 1 W rp ri + 2 + xs.length).toNat]⟩, ms) := by simp [ASt.rd, rstep, more]
      have e2 : rdid 1 W per ⟨5, rp, ri, lf, sp, xs⟩ ms now none 0 = {} := by simp [rdid, more]
      refine ⟨?_, by rw [e]; dsimp only; rw [e2]; simp⟩
      unfold ASt.rnext; rw [e]; dsimp only; rw [e2]
      exact ⟨len, ok, stamp, core.look (rs' := 5) (by decide) (by decide) (by decide) (by decide), i0, i3, i4, fun a => absurd a (show ¬ 5 ≤ 4 by decide), fun a => absurd a (show ¬ 5 = 4 by decide), fun _ => ⟨by simp; omega, g.2⟩, f3, f4, f0, fl', fun _ => z, fun _ a => absurd rfl a⟩
    · have e : ASt.rd W ⟨ms, s, ⟨5, rp, ri, lf, sp, xs⟩, fills, reads, left⟩ = (⟨6, rp, ri, lf, sp, xs ++ [rd ms (bufAt 1 W rp ri + 2 + xs.length).toNat]⟩, ms) := by simp [ASt.rd, rstep, more]
      have e2 : (rdid 1 W per ⟨5, rp, ri, lf, sp, xs⟩ ms now none 0).done = true := by simp [rdid, more]
      refine ⟨?_, by rw [e]; dsimp only; rw [e2]; simp⟩
      unfold ASt.rnext; rw [e]; dsimp only; rw [e2]
      exact ⟨len, ok, stamp, core.look (rs' := 6) (by decide) (by decide) (by decide) (by decide), i0, i3, i4, fun a => absurd a (show ¬ 6 ≤ 4 by decide), fun a => absurd a (show ¬ 6 = 4 by decide), fun a => absurd a (show ¬ 6 = 5 by decide), f3, f4, f0, fl', fun a => absurd a (show ¬ (6 = 4 ∨ 6 = 5) by decide), fun _ _ => rfl⟩
  | k + 6, h => omega

end Go.Proofs.Ytpkjffiajidfcaa

/- A write and a read of one channel in memory, whatever is written; one step of each. -/
namespace Go.Proofs.Ytpkjffiajidfcaa
open Go.RowKit

structure GW (w : World) (base : Nat) (cb : List Nat) (pl bm bw wb wbd cap len : Nat) (src rdg W per : Int) (xs : List Int) (s : WSt) : Prop where
  at_ : WrAt w wb wbd len cap src rdg W per xs s
  low : base ≤ wb ∧ base ≤ wbd
  wb1 : wb ≠ pl ∧ wb ≠ bm ∧ wb ≠ bw
  wd1 : wbd ≠ pl ∧ wbd ≠ bm ∧ wbd ≠ bw
  cfg : ∀ x, x ∈ cb → x ≠ wb ∧ x ≠ wbd

structure GR (w : World) (base : Nat) (cb : List Nat) (pl bm bw rb : Nat) (da : Option Addr) (dc : Nat) (src rdg W per : Int) (q : RSt) : Prop where
  at_ : RdAt w rb da dc src rdg W per q
  low : base ≤ rb
  rb1 : rb ≠ pl ∧ rb ≠ bm ∧ rb ≠ bw
  own : ∀ x, rown da dc q = some x → base ≤ x ∧ x ≠ pl ∧ x ≠ bm ∧ x ≠ bw ∧ x ≠ rb
  cfg : ∀ x, x ∈ cb → x ≠ rb ∧ rown da dc q ≠ some x

/-- The memory, a write and a read; cb: blocks that neither touches. -/
structure GParts (w : World) (base : Nat) (cb : List Nat) (pl bm bw wb wbd cap len rb : Nat) (da : Option Addr) (dc : Nat) (src rdg W per : Int) (xs : List Int) (ms : List Int) (s : WSt) (q : RSt) : Prop where
  mem : MemAt w bm bw ms
  cfgl : ∀ x, x ∈ cb → x < w.heap.size
  low : base ≤ bm ∧ base ≤ bw
  p1 : pl ≠ bm ∧ pl ≠ bw
  pc : ∀ x, x ∈ cb → x ≠ pl ∧ x ≠ bm ∧ x ≠ bw
  wr : s.stage ≠ 7 → GW w base cb pl bm bw wb wbd cap len src rdg W per xs s
  rd : q.stage ≠ 6 → GR w base cb pl bm bw rb da dc src rdg W per q
  wrd : s.stage ≠ 7 → q.stage ≠ 6 → wb ≠ rb ∧ wbd ≠ rb ∧ ∀ x, rown da dc q = some x → x ≠ wb ∧ x ≠ wbd

/-- A block that is none of a play's. -/
structure GOff (cb : List Nat) (bm bw wb wbd rb : Nat) (da : Option Addr) (dc : Nat) (s : WSt) (q : RSt) (x : Nat) : Prop where
  mem : bm ≠ x ∧ bw ≠ x
  cfg : x ∉ cb
  wr : s.stage ≠ 7 → wb ≠ x ∧ wbd ≠ x
  rd : q.stage ≠ 6 → rb ≠ x ∧ rown da dc q ≠ some x

theorem GParts.off {w : World} {base : Nat} {cb : List Nat} {pl bm bw wb wbd cap len rb : Nat} {da : Option Addr} {dc : Nat} {src rdg W per : Int} {xs ms : List Int} {s : WSt} {q : RSt} (h : GParts w base cb pl bm bw wb wbd cap len rb da dc src rdg W per xs ms s q) {x : Nat} (hx : w.heap.size ≤ x) : GOff cb bm bw wb wbd rb da dc s q x := by
  refine ⟨?_, fun a => ?_, fun a => ?_, fun a => ?_⟩
  · have := h.mem.hm.lt; have := h.mem.hw.lt; omega
  · have := h.cfgl x a; omega
  · have z := (h.wr a).at_; have := z.obj.lt; have := z.data.elim fun _ d => d.1.lt; omega
  · have z := (h.rd a).at_; have := z.obj.lt; exact ⟨by omega, fun e => by have := rown_lt z e; omega⟩

/-- What writes to the play's own block, or to others, leaves the rest as it was. -/
theorem GParts.keepOff {w w' : World} {base : Nat} {cb : List Nat} {pl bm bw wb wbd cap len rb : Nat} {da : Option Addr} {dc : Nat} {src rdg W per : Int} {xs ms : List Int} {s : WSt} {q : RSt} {l : List Nat} (h : GParts w base cb pl bm bw wb wbd cap len rb da dc src rdg W per xs ms s q)
    (k : Keeps l w w') (hl : ∀ x, x ∈ l → x = pl ∨ GOff cb bm bw wb wbd rb da dc s q x) : GParts w' base cb pl bm bw wb wbd cap len rb da dc src rdg W per xs ms s q := by
  refine ⟨h.mem.keep k (fun a => ?_) (fun a => ?_), fun x a => Nat.lt_of_lt_of_le (h.cfgl x a) k.size, h.low, h.p1, h.pc, fun a => ?_, fun a => ?_, h.wrd⟩
  · rcases hl _ a with d | d; exact h.p1.1 d.symm; exact d.mem.1 rfl
  · rcases hl _ a with d | d; exact h.p1.2 d.symm; exact d.mem.2 rfl
  · have z := h.wr a
    refine { z with at_ := z.at_.keep k (fun b => ?_) (fun b => ?_) }
    · rcases hl _ b with d | d; exact z.wb1.1 d; exact (d.wr a).1 rfl
    · rcases hl _ b with d | d; exact z.wd1.1 d; exact (d.wr a).2 rfl
  · have z := h.rd a
    refine { z with at_ := z.at_.keep k (fun b => ?_) (fun x hx b => ?_) }
    · rcases hl _ b with d | d; exact z.rb1.1 d; exact (d.rd a).1 rfl
    · rcases hl _ b with d | d; exact (z.own x hx).2.1 d; exact (d.rd a).2 hx

theorem GParts.keep {w w' : World} {base : Nat} {cb : List Nat} {pl bm bw wb wbd cap len rb : Nat} {da : Option Addr} {dc : Nat} {src rdg W per : Int} {xs ms : List Int} {s : WSt} {q : RSt} {l : List Nat} (h : GParts w base cb pl bm bw wb wbd cap len rb da dc src rdg W per xs ms s q)
    (k : Keeps l w w') (hl : ∀ x, x ∈ l → x = pl ∨ w.heap.size ≤ x) : GParts w' base cb pl bm bw wb wbd cap len rb da dc src rdg W per xs ms s q :=
  h.keepOff k fun x a => (hl x a).imp id h.off


/-- What a step of the write leaves. -/
def GWTo (d : DidV) (base : Nat) (cb : List Nat) (pl bm bw wb wbd cap len rb : Nat) (da : Option Addr) (dc : Nat) (src rdg W per : Int) (xs ms : List Int) (s : WSt) (q : RSt) (w : World) (e : Ending) (w' : World) : Prop :=
  e = .returned (.agg d.cells) ∧ Keeps [wb, bw] w w' ∧ GParts w' base cb pl bm bw wb wbd cap len rb da dc src rdg W per xs ms s q

theorem GWStep (base : Nat) (cb : List Nat) (pl bm bw wb wbd cap len rb : Nat) (da : Option Addr) (dc : Nat) (src rdg W per : Int) (xs ms : List Int) (s : WSt) (q : RSt) (now : Int) (d : DidV) (w : World) (h : GParts w base cb pl bm bw wb wbd cap len rb da dc src rdg W per xs ms s q)
    (hs : s.stage ≠ 7) (hms : MsOk ms) (hg : Geo src rdg W ms) (ho : WOk W len s) (hn0 : 0 ≤ now) (hn1 : now ≤ 4294967295) (hd : (wstep src rdg W len xs s ms now).1 = d) :
    Calls Try.prog 14 #[.pointer (some ⟨wb, 0, none⟩), .pointer (some ⟨bm, 0, none⟩), .int .i64 now] w
      (GWTo d base cb pl bm bw wb wbd cap len rb da dc src rdg W per xs (wstep src rdg W len xs s ms now).2.2 (wstep src rdg W len xs s ms now).2.1 q w) := by
  subst hd
  have z := h.wr hs
  refine (WStep_any wb bm bw wbd len cap src rdg W per xs s ms now w h.mem z.at_ hms hg ho hn0 hn1 z.wb1.2.1 z.wb1.2.2 z.wd1.2.2).mono ?_
  rintro e w' ⟨he, hk, hm, hw⟩
  refine ⟨he, hk, hm, fun x a => Nat.lt_of_lt_of_le (h.cfgl x a) hk.size, h.low, h.p1, h.pc, fun _ => ⟨hw, z.low, z.wb1, z.wd1, z.cfg⟩, fun a => ?_, fun _ a => h.wrd hs a⟩
  have r := h.rd a
  have a2 := h.wrd hs a
  refine ⟨r.at_.keep hk ?_ (fun x hx => ?_), r.low, r.rb1, r.own, r.cfg⟩
  · have := r.rb1; simp; omega
  · have := r.own x hx; have := a2.2.2 x hx; simp; omega

/-- What a step of the read leaves. -/
def GRTo (did : Option Addr → Nat → DidV) (base : Nat) (cb : List Nat) (pl bm bw wb wbd cap len rb : Nat) (da : Option Addr) (dc : Nat) (src rdg W per : Int) (xs ms : List Int) (s : WSt) (q0 q : RSt) (w : World) (e : Ending) (w' : World) : Prop :=
  ∃ da' dc', e = .returned (.agg (did da' dc').cells) ∧ Keeps (rb :: bw :: (rown da dc q0).toList) w w' ∧ GParts w' base cb pl bm bw wb wbd cap len rb da' dc' src rdg W per xs ms s q ∧ RdAt w' rb da' dc' src rdg W per q ∧
    (∀ x, rown da' dc' q = some x → rown da dc q0 = some x ∨ w.heap.size ≤ x)

theorem GRStep (base : Nat) (cb : List Nat) (pl bm bw wb wbd cap len rb : Nat) (da : Option Addr) (dc : Nat) (src rdg W per : Int) (xs ms : List Int) (s : WSt) (q : RSt) (now : Int) (w : World) (h : GParts w base cb pl bm bw wb wbd cap len rb da dc src rdg W per xs ms s q) (hb : base ≤ w.heap.size) (hpl : pl < w.heap.size)
    (hs : q.stage ≠ 6) (hms : MsOk ms) (hg : Geo src rdg W ms) (ho : ROk W q) (hn0 : 0 ≤ now) (hn1 : now ≤ 4294967295) :
    Calls Try.prog 16 #[.pointer (some ⟨rb, 0, none⟩), .pointer (some ⟨bm, 0, none⟩), .int .i64 now] w
      (GRTo (rdid src W per q ms now) base cb pl bm bw wb wbd cap len rb da dc src rdg W per xs (rstep src rdg W q ms).2 s q (rstep src rdg W q ms).1 w) := by
  have z := h.rd hs
  have own := z.own
  have lm := h.mem.hm.lt
  have lw := h.mem.hw.lt
  have lr := z.at_.obj.lt
  refine (RStep_any rb bm bw dc da src rdg W per q ms now w h.mem z.at_ hms hg ho hn0 hn1 z.rb1.2.1 z.rb1.2.2 (fun a => (own _ a.symm).2.2.2.2 rfl) (fun a => (own _ a.symm).2.2.1 rfl) (fun a => (own _ a.symm).2.2.2.1 rfl)).mono ?_
  rintro e w' ⟨da', dc', he, hk, hm, hr, ho⟩
  have own' : ∀ x, rown da' dc' (rstep src rdg W q ms).1 = some x → rown da dc q = some x ∨ w.heap.size ≤ x := by
    intro x hx
    rcases ho with a | ⟨g, a, b⟩
    · exact .inl (a.symm.trans hx)
    · have := Option.some.inj (a.symm.trans hx); omega
  have nl : ∀ x, x ≠ rb → x ≠ bw → rown da dc q ≠ some x → x ∉ (rb :: bw :: (Value.slice da q.xs.length dc).ownBlock.toList) := by
    intro x a b c d
    simp only [List.mem_cons, Option.mem_toList] at d
    rcases d with d | d | d
    · exact a d
    · exact b d
    · exact c d
  refine ⟨da', dc', he, hk, ⟨hm, fun x a => Nat.lt_of_lt_of_le (h.cfgl x a) hk.size, h.low, h.p1, h.pc, fun a => ?_, fun _ => ⟨hr, z.low, z.rb1, fun x hx => ?_, fun x a => ⟨(z.cfg x a).1, fun hx => ?_⟩⟩, fun a _ => ?_⟩, hr, own'⟩
  · have r := h.wr a
    have a2 := h.wrd a hs
    refine ⟨r.at_.keep hk (nl _ a2.1 r.wb1.2.2 (fun hx => (a2.2.2 _ hx).1 rfl)) (nl _ a2.2.1 r.wd1.2.2 (fun hx => (a2.2.2 _ hx).2 rfl)), r.low, r.wb1, r.wd1, r.cfg⟩
  · rcases own' x hx with a | a
    · exact own x a
    · omega
  · rcases own' x hx with b | b
    · exact (z.cfg x a).2 b
    · have := h.cfgl x a; omega
  · have r := h.wr a
    have a2 := h.wrd a hs
    refine ⟨a2.1, a2.2.1, fun x hx => ?_⟩
    rcases own' x hx with b | b
    · exact a2.2.2 x b
    · have := r.at_.obj.lt; have := r.at_.data.elim fun _ d => d.1.lt; omega

/-- A new write in place of none. -/
theorem GParts.newW {w w' : World} {base : Nat} {cb : List Nat} {pl bm bw wb wbd cap len rb : Nat} {da : Option Addr} {dc : Nat} {src rdg W per : Int} {xs ms : List Int} {s : WSt} {q : RSt} (h : GParts w base cb pl bm bw wb wbd cap len rb da dc src rdg W per xs ms s q)
    (k : Keeps [] w w') (hpl : pl < w.heap.size) (hb : base ≤ w.heap.size) {wb' wbd' cap' len' : Nat} {xs' : List Int} {s' : WSt} (h1 : w.heap.size ≤ wb') (h2 : w.heap.size ≤ wbd') (ha : WrAt w' wb' wbd' len' cap' src rdg W per xs' s') :
    GParts w' base cb pl bm bw wb' wbd' cap' len' rb da dc src rdg W per xs' ms s' q := by
  have g := h.keep k (by simp)
  have lm := h.mem.hm.lt
  have lw := h.mem.hw.lt
  refine ⟨g.mem, g.cfgl, g.low, g.p1, g.pc, fun _ => ⟨ha, by omega, by omega, by omega, fun x a => by have := h.cfgl x a; omega⟩, g.rd, fun _ a => ?_⟩
  have r := (h.rd a).at_
  have := r.obj.lt
  exact ⟨by omega, by omega, fun x hx => by have := rown_lt r hx; omega⟩

/-- A new read in place of none. -/
theorem GParts.newR {w w' : World} {base : Nat} {cb : List Nat} {pl bm bw wb wbd cap len rb : Nat} {da : Option Addr} {dc : Nat} {src rdg W per : Int} {xs ms : List Int} {s : WSt} {q : RSt} (h : GParts w base cb pl bm bw wb wbd cap len rb da dc src rdg W per xs ms s q)
    (k : Keeps [] w w') (hpl : pl < w.heap.size) (hb : base ≤ w.heap.size) {rb' : Nat} (h1 : w.heap.size ≤ rb') (ha : Blk w' rb' (rdCells src rdg W per 0 0 0 0 (.slice none 0 0) (rnext 0 rb')) 80) :
    GParts w' base cb pl bm bw wb wbd cap len rb' none 0 src rdg W per xs ms s ⟨0, 0, 0, 0, 0, []⟩ := by
  have g := h.keep k (by simp)
  have lm := h.mem.hm.lt
  have lw := h.mem.hw.lt
  have none_own : ∀ x, ¬ rown none 0 ⟨0, 0, 0, 0, 0, []⟩ = some x := fun x a => by simp [rown, Value.ownBlock] at a
  refine ⟨g.mem, g.cfgl, g.low, g.p1, g.pc, g.wr, fun _ => ⟨⟨ha, World.ownsRow_nil _ _ _ _⟩, by omega, by omega, fun x hx => absurd hx (none_own x), fun x a => ⟨by have := h.cfgl x a; omega, none_own x⟩⟩, fun a _ => ?_⟩
  have r := (h.wr a).at_
  have := r.obj.lt
  have := r.data.elim fun _ d => d.1.lt
  exact ⟨by omega, by omega, fun x hx => absurd hx (none_own x)⟩

end Go.Proofs.Ytpkjffiajidfcaa

/- SameAnswer, SameDid of portholeref11, at answers that are the same. -/
namespace Go.Proofs.Ytpkjffiajidfcaa
open Go.RowKit

/-- A slice reads as the first n words of a list. -/
def SliceIs (w : World) (a : Option Addr) (n : Nat) (xs : List Int) : Prop := ∀ j : Nat, j < n → ∃ b o, a = some ⟨b, o, none⟩ ∧ w.cell? ⟨b, o + j, none⟩ = some (.int .u32 (rd xs j))

theorem SliceIs.keep {w w' : World} {a : Option Addr} {n : Nat} {xs : List Int} {l : List Nat} (h : SliceIs w a n xs) (k : Keeps l w w') (hl : ∀ x, blockOf a = some x → x ∉ l) : SliceIs w' a n xs := by
  intro j hj
  obtain ⟨b, o, rfl, hc⟩ := h j hj
  exact ⟨b, o, rfl, (k.cell (lt_of_cell hc) (hl b rfl)).trans hc⟩

theorem SliceIs.nil (w : World) (a : Option Addr) (xs : List Int) : SliceIs w a 0 xs := fun j hj => absurd hj (Nat.not_lt_zero j)

theorem SliceIs.ofRow {w : World} {base : Nat} {t : TypeId} {a : Option Addr} {c : Nat} {xs : List Int} (h : w.ownsRow base t 1 (.slice a xs.length c) xs.length (xs.map (Value.int .u32))) : SliceIs w a xs.length xs := by
  intro j hj
  rcases h.2 with ⟨_, e2⟩ | ⟨g, gc, cur, e1, _⟩
  · omega
  · obtain ⟨rfl, rfl⟩ : a = some ⟨g, 0, none⟩ ∧ c = gc := by simpa using e1
    refine ⟨g, 0, rfl, ?_⟩
    have q := h.cells (g := g) rfl j (.int .u32 (rd xs j)) (by simp [rd, hj])
    rw [addr_add] at q
    exact q

set_option maxRecDepth 100000 in
set_option maxHeartbeats 4000000 in
theorem SameAnswer_yes (code count : Int) (valid : Bool) (a1 a2 : Option Addr) (n c1 c2 : Nat) (xs : List Int) (hn : n ≤ 140737488351232) (w : World) (h1 : SliceIs w a1 n xs) (h2 : SliceIs w a2 n xs) :
    Calls Try.prog 17 #[.agg #[.int .i64 code, .slice a1 n c1, .bool valid, .int .i64 count], .agg #[.int .i64 code, .slice a2 n c2, .bool valid, .int .i64 count]] w (Says (.bool true) w) := by
  have H1 := Lib.hid h1
  have H2 := Lib.hid h2
  have e1 : (code != code) = false := by simp
  have e2 : (valid != valid) = false := by simp
  have e3 : (count != count) = false := by simp
  have e4 : ((n : Int) != (n : Int)) = false := by simp
  clear h1 h2
  go_enter Try.func17, Try.ntmps17
  go_wp2_with fail
  have B2 := Lib.hid ((Blk.new w #[.int .i64 code, .slice a1 n c1, .bool valid, .int .i64 count] 51).alloc (.cells #[.int .i64 code, .slice a2 n c2, .bool valid, .int .i64 count] 51))
  have B3 := Lib.hid (Blk.newAt (w := w.alloc (.cells #[.int .i64 code, .slice a1 n c1, .bool valid, .int .i64 count] 51)) (vs := #[.int .i64 code, .slice a2 n c2, .bool valid, .int .i64 count]) (t := 51) (n := w.heap.size + 1) (by simp))
  have K1 := Lib.hid (((Keeps.refl [] w).alloc (.cells #[.int .i64 code, .slice a1 n c1, .bool valid, .int .i64 count] 51)).alloc (.cells #[.int .i64 code, .slice a2 n c2, .bool valid, .int .i64 count] 51))
  generalize (w.alloc (.cells #[.int .i64 code, .slice a1 n c1, .bool valid, .int .i64 count] 51)).alloc (.cells #[.int .i64 code, .slice a2 n c2, .bool valid, .int .i64 count] 51) = w1 at *
  go_loopw [5] (fun x wr => ∃ i : Nat, i ≤ n ∧ x = .int .i64 i ∧ Keeps [] w1 wr) (fun x _ => n - (intOf x).toNat)
  case atStart => exact ⟨0, by omega, rfl, Keeps.refl _ _⟩
  case round =>
    obtain ⟨i, hi, rfl, hk⟩ := hrel
    have c2 := (B2.out.keep hk (by simp)).cell
    have c3 := (B3.out.keep hk (by simp)).cell
    have HK := Lib.hid hk
    clear hk
    have hi0 : (0 : Int) ≤ (i : Int) := Int.natCast_nonneg _
    by_cases hin : i < n
    · have hi1 : (i : Int) < (n : Int) := by omega
      obtain ⟨b1, o1, rfl, hc1⟩ := H1.out i hin
      obtain ⟨b2, o2, rfl, hc2⟩ := H2.out i hin
      have d1 : wr.cell? ⟨b1, o1 + i, none⟩ = some (.int .u32 (rd xs i)) := (HK.out.cell (Nat.lt_of_lt_of_le (lt_of_cell hc1) K1.out.size) (by simp)).trans ((K1.out.cell (lt_of_cell hc1) (by simp)).trans hc1)
      have d2 : wr.cell? ⟨b2, o2 + i, none⟩ = some (.int .u32 (rd xs i)) := (HK.out.cell (Nat.lt_of_lt_of_le (lt_of_cell hc2) K1.out.size) (by simp)).trans ((K1.out.cell (lt_of_cell hc2) (by simp)).trans hc2)
      have e5 : (rd xs i != rd xs i) = false := by simp
      clear hc1 hc2
      go_upto_region 6 with fail
      go_quiet (fail)
      go_wp2_with fail
      go_roundw
      case rel => exact ⟨i + 1, by omega, by go_num, HK.out.drewN⟩
      case measure => simp [intOf]; omega
    · obtain rfl : i = n := by omega
      have hi1 : ¬ (i : Int) < (i : Int) := by omega
      go_wp2_with fail
      go_ret
      exact ⟨rfl, K1.out.trans HK.out⟩


/-- A Did whose words lie in a slice. -/
def didAt (d : DidV) (a : Option Addr) (n c : Nat) : Array Value := #[.bool d.done, .int .i64 d.code, .slice a n c, .bool d.valid, .int .i64 d.count, .bool d.mark, .bool d.ring, .bool d.stamped, .int .i64 d.buffer]

set_option maxRecDepth 100000 in
set_option maxHeartbeats 4000000 in
theorem SameDid_yes (z0 z5 z7 z8 z9 : Bool) (z1 z6 z10 : Int) (a1 a2 : Option Addr) (n c1 c2 : Nat) (xs : List Int) (hn : n ≤ 140737488351232) (w : World) (h1 : SliceIs w a1 n xs) (h2 : SliceIs w a2 n xs) :
    Calls Try.prog 18 #[.agg #[.bool z0, .int .i64 z1, .slice a1 n c1, .bool z5, .int .i64 z6, .bool z7, .bool z8, .bool z9, .int .i64 z10], .agg #[.bool z0, .int .i64 z1, .slice a2 n c2, .bool z5, .int .i64 z6, .bool z7, .bool z8, .bool z9, .int .i64 z10]] w (Says (.bool true) w) := by
  have H1 := Lib.hid h1
  have H2 := Lib.hid h2
  have e1 : (z0 == z0) = true := by simp
  have e2 : (z7 == z7) = true := by simp
  have e3 : (z8 == z8) = true := by simp
  have e4 : (z9 == z9) = true := by simp
  have e5 : (z10 == z10) = true := by simp
  clear h1 h2
  go_enter Try.func18, Try.ntmps18
  go_wp2_with (first | (go_at_call 17; (with_reducible refine (SameAnswer_yes z1 z6 z5 a1 a2 n c1 c2 xs hn _ (H1.out.keep (l := []) ?_ (by simp)) (H2.out.keep (l := []) ?_ (by simp))).mono ?_); (repeat' with_reducible (first | exact Keeps.refl _ _ | assumption | apply Keeps.drew | apply Keeps.drewN | apply Keeps.alloc)); (repeat' with_reducible (first | exact Keeps.refl _ _ | assumption | apply Keeps.drew | apply Keeps.drewN | apply Keeps.alloc)); rintro e w5 ⟨rfl, hk5⟩) | (fail))
  go_ret
  exact ⟨rfl, Keeps.trans (by (repeat' with_reducible (first | exact Keeps.refl _ _ | assumption | apply Keeps.drew | apply Keeps.drewN | apply Keeps.alloc))) hk5⟩

end Go.Proofs.Ytpkjffiajidfcaa

/- A read with no write between: what it finds (plain). -/
namespace Go.Proofs.Ytpkjffiajidfcaa

/-- What a read would find: the pair, the buffer, its length word, how many words, the words. -/
def sP (ms : List Int) : Int := rd ms 1 % 2
def sI (ms : List Int) : Int := rd ms (1 + 1 + sP ms).toNat % 2
def sL (W : Int) (ms : List Int) : Int := rd ms (bufAt 1 W (sP ms) (sI ms)).toNat
def sF (W : Int) (ms : List Int) : Int := if sL W ms ≤ W then sL W ms else W
def sX (W : Int) (ms : List Int) (k : Nat) : List Int := (List.range k).map fun (j : Nat) => rd ms (bufAt 1 W (sP ms) (sI ms) + 2 + (j : Int)).toNat

/-- Two memories that differ in the reading word alone. -/
structure Like (W : Int) (m0 ms : List Int) : Prop where
  len : (ms.length : Int) = 13 + 4 * W
  same : ∀ a : Nat, (a : Int) ≠ 12 + 4 * W → rd ms a = rd m0 a
  ok : MsOk ms

structure RI (W : Int) (m0 : List Int) (j : Nat) (q : RSt) : Prop where
  st : q.stage ≤ 5
  j4 : q.stage ≤ 4 → j = q.stage ∧ q.xs = []
  p1 : 1 ≤ q.stage → q.pair = sP m0
  i3 : 3 ≤ q.stage → q.index = sI m0
  l4 : 4 ≤ q.stage → 0 < sL W m0 ∧ q.left = sF W m0
  x5 : q.stage = 5 → j = 5 + q.xs.length ∧ q.xs = sX W m0 q.xs.length ∧ (q.xs.length : Int) < sF W m0
  s5 : q.stage = 5 → q.stamp = rd m0 (bufAt 1 W (sP m0) (sI m0) + 1).toNat
  bp : Bit q.pair
  bi : Bit q.index
  stamp : 0 ≤ q.stamp ∧ q.stamp ≤ 4294967295

theorem sP_bit (ms : List Int) : Bit (sP ms) := by unfold Bit sP; omega
theorem sI_bit (ms : List Int) : Bit (sI ms) := by unfold Bit sI; omega

theorem RI.start (W : Int) (m0 : List Int) : RI W m0 0 ⟨0, 0, 0, 0, 0, []⟩ :=
  ⟨by show 0 ≤ 5; omega, fun _ => ⟨rfl, rfl⟩, fun a => absurd a (show ¬ 1 ≤ 0 by omega), fun a => absurd a (show ¬ 3 ≤ 0 by omega), fun a => absurd a (show ¬ 4 ≤ 0 by omega), fun a => absurd a (show ¬ 0 = 5 by omega), fun a => absurd a (show ¬ 0 = 5 by omega), .inl rfl, .inl rfl, ⟨Int.le_refl 0, by decide⟩⟩

theorem RI.rok {W : Int} {m0 : List Int} {j : Nat} {q : RSt} (h : RI W m0 j q) : ROk W q := by
  have a := h.bp
  have b := h.bi
  unfold Bit at a b
  refine ⟨by omega, by omega, by omega, by omega, fun c => ?_, fun c => ?_, h.stamp.1, h.stamp.2⟩
  · have := (h.x5 c).2.2; have := (h.l4 (by omega)).2; omega
  · have := (h.l4 (by omega)).2; rw [this]; unfold sF; split <;> omega

theorem RI.small {W : Int} {m0 : List Int} {j : Nat} {q : RSt} (h : RI W m0 j q) (hW : W ≤ 16) : j < 40 := by
  by_cases c : q.stage = 5
  · have := h.x5 c
    have e : sF W m0 ≤ 16 := by unfold sF; split <;> omega
    omega
  · have := h.j4 (by have := h.st; omega); have := h.st; omega

/-- Where there are words, the last step is the (5 + words)-th. -/
theorem RI.last {W : Int} {m0 : List Int} {j : Nat} {q : RSt} (h : RI W m0 j q) (hL : 0 ≤ sF W m0) : (j : Int) ≤ 4 + sF W m0 := by
  by_cases c : q.stage = 5
  · have := h.x5 c; omega
  · have := h.j4 (by have := h.st; omega); have := h.st; omega

theorem Like.geo {W : Int} {m0 ms : List Int} (h : Like W m0 ms) (hW : 1 ≤ W) (hW' : W ≤ 16) : Geo 1 (12 + 4 * W) W ms := by
  have := h.len
  exact ⟨by omega, by omega, by omega, by omega, by omega, by omega⟩

theorem bufAt_lo {W p j : Int} (hW : 1 ≤ W) (hp : Bit p) (hj : Bit j) : 4 ≤ bufAt 1 W p j ∧ bufAt 1 W p j + 1 + W < 12 + 4 * W := by
  rcases hp with rfl | rfl <;> rcases hj with rfl | rfl <;> simp [bufAt] <;> omega

/-- What a step comes to. -/
inductive RStepTo (W per : Int) (m0 : List Int) (j : Nat) (q : RSt) (ms : List Int) (now : Int) : Prop where
  | going (hi : RI W m0 (j + 1) (rstep 1 (12 + 4 * W) W q ms).1) (hd : ∀ da dc, (rdid 1 W per q ms now da dc).done = false)
  | none (hl : sL W m0 = 0) (hx : (rstep 1 (12 + 4 * W) W q ms).1.xs = []) (hd : ∀ da dc, rdid 1 W per q ms now da dc = { done := true, code := 1, buffer := 1 + (2 * q.pair + q.index) })
  | found (k : Nat) (hj : j = 5 + k) (hst : q.stage = 5) (hk : (k : Int) + 1 = sF W m0) (hl : sL W m0 ≠ 0) (hx : (rstep 1 (12 + 4 * W) W q ms).1.xs = sX W m0 (k + 1)) (hd : ∀ da dc, rdid 1 W per q ms now da dc = { done := true, da := da, dn := k + 1, dc := dc, valid := decide (now - q.stamp ≤ per) })

theorem sX_succ (W : Int) (ms : List Int) (k : Nat) : sX W ms (k + 1) = sX W ms k ++ [rd ms (bufAt 1 W (sP ms) (sI ms) + 2 + k).toNat] := by
  simp [sX, List.range_succ]

theorem sX_len (W : Int) (ms : List Int) (k : Nat) : (sX W ms k).length = k := by simp [sX]

theorem RI.step {W : Int} {m0 ms : List Int} {j : Nat} {q : RSt} (h : RI W m0 j q) (hl : Like W m0 ms) (hW : 1 ≤ W) (per now : Int) :
    Like W m0 (rstep 1 (12 + 4 * W) W q ms).2 ∧ RStepTo W per m0 j q ms now := by
  obtain ⟨st, p, i, lf, sp, xs⟩ := q
  obtain ⟨hst, j4, p1, i3, l4, x5, s5, bp, bi, stamp⟩ := h
  dsimp only at hst j4 p1 i3 l4 x5 s5 bp bi stamp
  match st, hst with
  | 0, _ =>
    obtain ⟨rfl, rfl⟩ := j4 (by omega)
    refine ⟨hl, .going ⟨by show 1 ≤ 5; omega, fun _ => ⟨rfl, rfl⟩, fun _ => ?_, fun a => absurd a (show ¬ 3 ≤ 1 by omega), fun a => absurd a (show ¬ 4 ≤ 1 by omega), fun a => absurd a (show ¬ 1 = 5 by omega), fun a => absurd a (show ¬ 1 = 5 by omega), ?_, bi, stamp⟩ (fun _ _ => rfl)⟩
    · show rd ms 1 % 2 = rd m0 1 % 2
      rw [hl.same 1 (by omega)]
    · show Bit (rd ms 1 % 2)
      unfold Bit; omega
  | 1, _ =>
    obtain ⟨rfl, rfl⟩ := j4 (by omega)
    refine ⟨⟨by simpa [rstep] using hl.len, fun a ha => ?_, hl.ok.set (v := p) (by unfold Bit at bp; omega) (by unfold Bit at bp; omega) _⟩, .going ⟨by show 2 ≤ 5; omega, fun _ => ⟨rfl, rfl⟩, fun _ => p1 (by omega), fun a => absurd a (show ¬ 3 ≤ 2 by omega), fun a => absurd a (show ¬ 4 ≤ 2 by omega), fun a => absurd a (show ¬ 2 = 5 by omega), fun a => absurd a (show ¬ 2 = 5 by omega), bp, bi, stamp⟩ (fun _ _ => rfl)⟩
    show rd (ms.set (12 + 4 * W).toNat p) a = _
    rw [rd_set, if_neg (by omega)]
    exact hl.same a ha
  | 2, _ =>
    obtain ⟨rfl, rfl⟩ := j4 (by omega)
    have hp := p1 (by omega)
    refine ⟨hl, .going ⟨by show 3 ≤ 5; omega, fun _ => ⟨rfl, rfl⟩, fun _ => p1 (by omega), fun _ => ?_, fun a => absurd a (show ¬ 4 ≤ 3 by omega), fun a => absurd a (show ¬ 3 = 5 by omega), fun a => absurd a (show ¬ 3 = 5 by omega), bp, ?_, stamp⟩ (fun _ _ => rfl)⟩
    · show rd ms (1 + 1 + p).toNat % 2 = rd m0 (1 + 1 + sP m0).toNat % 2
      rw [hp, hl.same _ (by have := sP_bit m0; unfold Bit at this; omega)]
    · show Bit (rd ms (1 + 1 + p).toNat % 2)
      unfold Bit; omega
  | 3, _ =>
    obtain ⟨rfl, rfl⟩ := j4 (by omega)
    have hp := p1 (by omega)
    have hi := i3 (by omega)
    subst hp hi
    have lo := bufAt_lo hW (sP_bit m0) (sI_bit m0)
    have e0 : rd ms (bufAt 1 W (sP m0) (sI m0)).toNat = sL W m0 := hl.same _ (by omega)
    have pos : 0 ≤ sL W m0 := by rw [← e0]; exact (hl.ok _).1
    by_cases hz : sL W m0 = 0
    · have e : rstep 1 (12 + 4 * W) W ⟨3, sP m0, sI m0, lf, sp, []⟩ ms = (⟨6, sP m0, sI m0, lf, sp, []⟩, ms) := by simp [rstep, e0, hz]
      rw [e]
      exact ⟨hl, .none hz (by rw [e]) (fun _ _ => by simp [rdid, e0, hz])⟩
    · have e : rstep 1 (12 + 4 * W) W ⟨3, sP m0, sI m0, lf, sp, []⟩ ms = (⟨4, sP m0, sI m0, sF W m0, sp, []⟩, ms) := by simp [rstep, e0, hz, sF]
      rw [e]
      refine ⟨hl, .going (by rw [e]; exact ⟨by show 4 ≤ 5; omega, fun _ => ⟨rfl, rfl⟩, fun _ => rfl, fun _ => rfl, fun _ => ⟨by omega, rfl⟩, fun a => absurd a (show ¬ 4 = 5 by omega), fun a => absurd a (show ¬ 4 = 5 by omega), bp, bi, stamp⟩) (fun _ _ => by simp [rdid, e0, hz])⟩
  | 4, _ =>
    obtain ⟨rfl, rfl⟩ := j4 (by omega)
    have g := l4 (by omega)
    have hp := p1 (by omega)
    have hi := i3 (by omega)
    subst hp hi
    have lo := bufAt_lo hW (sP_bit m0) (sI_bit m0)
    refine ⟨hl, .going ⟨by show 5 ≤ 5; omega, fun a => absurd a (show ¬ 5 ≤ 4 by omega), fun _ => rfl, fun _ => rfl, fun _ => g, fun _ => ⟨rfl, rfl, ?_⟩, fun _ => hl.same (bufAt 1 W (sP m0) (sI m0) + 1).toNat (by omega), bp, bi, hl.ok _⟩ (fun _ _ => rfl)⟩
    show (0 : Int) < sF W m0
    unfold sF; split <;> omega
  | 5, _ =>
    have hp := p1 (by omega)
    have hi := i3 (by omega)
    have g := l4 (by omega)
    have x := x5 rfl
    subst hp hi
    have lo := bufAt_lo hW (sP_bit m0) (sI_bit m0)
    have fW : sF W m0 ≤ W := by unfold sF; split <;> omega
    have e0 : rd ms (bufAt 1 W (sP m0) (sI m0) + 2 + xs.length).toNat = rd m0 (bufAt 1 W (sP m0) (sI m0) + 2 + xs.length).toNat := hl.same _ (by omega)
    have ex : xs ++ [rd m0 (bufAt 1 W (sP m0) (sI m0) + 2 + xs.length).toNat] = sX W m0 (xs.length + 1) := by rw [sX_succ, ← x.2.1]
    obtain ⟨_, rfl⟩ := g
    by_cases more : (xs.length : Int) + 1 < sF W m0
    · have e : rstep 1 (12 + 4 * W) W ⟨5, sP m0, sI m0, sF W m0, sp, xs⟩ ms = (⟨5, sP m0, sI m0, sF W m0, sp, sX W m0 (xs.length + 1)⟩, ms) := by simp [rstep, e0, ex, more]
      rw [e]
      refine ⟨hl, .going (by rw [e]; exact ⟨by show 5 ≤ 5; omega, fun a => absurd a (show ¬ 5 ≤ 4 by omega), fun _ => rfl, fun _ => rfl, fun _ => ⟨by omega, rfl⟩, fun _ => ⟨by rw [sX_len]; omega, by rw [sX_len], by rw [sX_len]; omega⟩, fun _ => s5 rfl, bp, bi, stamp⟩) (fun _ _ => by simp [rdid, more])⟩
    · have e : rstep 1 (12 + 4 * W) W ⟨5, sP m0, sI m0, sF W m0, sp, xs⟩ ms = (⟨6, sP m0, sI m0, sF W m0, sp, sX W m0 (xs.length + 1)⟩, ms) := by simp [rstep, e0, ex, more]
      rw [e]
      exact ⟨hl, .found xs.length (by omega) rfl (by omega) (by omega) (by rw [e]) (fun _ _ => by simp [rdid, more])⟩

end Go.Proofs.Ytpkjffiajidfcaa

/- FourAtomic of the law, walked. -/
namespace Go.Proofs.Ytpkjffiajidfcaa
open Go.RowKit

theorem below_to_keeps {base : Nat} {a w : World} (h : Below base a w) : Keeps ((List.range a.heap.size).filter (fun x => decide (base ≤ x))) a w :=
  ⟨h.os, h.tape, h.output, h.size, fun k hk hl => h.block k (by
    rcases Nat.lt_or_ge k base with c | c
    · exact c
    · exact absurd (by simp; exact ⟨hk, c⟩) hl)⟩

theorem not_in_range {base n x : Nat} (h : x < base) : x ∉ (List.range n).filter (fun x => decide (base ≤ x)) := by simp; omega

/-- The answer that a read gives, by the memory. -/
def ansN (W : Int) (m0 : List Int) : Nat := if sL W m0 = 0 then 0 else (sF W m0).toNat
def ansCode (W : Int) (m0 : List Int) : Int := if sL W m0 = 0 then 1 else 0
def ansValid (W : Int) (m0 : List Int) : Bool := !(sL W m0 == 0)

theorem Blk.four4 {w : World} {b : Nat} {t : TypeId} {x0 x1 x2 x3 y0 y1 y2 y3 : Value} (h : Blk w b #[x0, x1, x2, x3] t) : Blk ((((w.setCell ⟨b, 0, none⟩ y0).setCell ⟨b, 1, none⟩ y1).setCell ⟨b, 2, none⟩ y2).setCell ⟨b, 3, none⟩ y3) b #[y0, y1, y2, y3] t := by
  have e := (((h.set 0 y0).set 1 y1).set 2 y2).set 3 y3
  simpa only [List.setIfInBounds_toArray, List.set_cons_zero, List.set_cons_succ] using e

theorem fin_step {W per now : Int} {m0 ms : List Int} {j : Nat} {q : RSt} (h : RI W m0 j q) (hl : Like W m0 ms) (hW : 1 ≤ W) (hnow : now ≤ per) :
    Like W m0 (rstep 1 (12 + 4 * W) W q ms).2 ∧ ((RI W m0 (j + 1) (rstep 1 (12 + 4 * W) W q ms).1 ∧ ∀ da dc, (rdid 1 W per q ms now da dc).done = false) ∨
      ((rstep 1 (12 + 4 * W) W q ms).1.xs = sX W m0 (ansN W m0) ∧ ∃ buf, ∀ da dc, ∃ a' c', rdid 1 W per q ms now da dc = { done := true, code := ansCode W m0, da := a', dn := ansN W m0, dc := c', valid := ansValid W m0, buffer := buf } ∧ (a' = da ∨ (a' = none ∧ ansN W m0 = 0)))) := by
  have st := h.stamp
  obtain ⟨h1, h2⟩ := h.step hl hW per now
  refine ⟨h1, ?_⟩
  cases h2 with
  | going hi hd => exact .inl ⟨hi, hd⟩
  | none hz hx hd =>
    have e : ansN W m0 = 0 := by unfold ansN; rw [if_pos hz]
    refine .inr ⟨by rw [hx, e]; rfl, 1 + (2 * q.pair + q.index), fun da dc => ⟨none, 0, ?_, .inr ⟨rfl, e⟩⟩⟩
    rw [hd, e]
    unfold ansCode ansValid
    rw [if_pos hz, hz]
    rfl
  | found k hj hst hk hz hx hd =>
    have e : ansN W m0 = k + 1 := by unfold ansN; rw [if_neg hz]; omega
    refine .inr ⟨by rw [hx, e], 0, fun da dc => ⟨da, dc, ?_, .inl rfl⟩⟩
    rw [hd, e]
    unfold ansCode ansValid
    rw [if_neg hz]
    have e1 : decide (now - q.stamp ≤ per) = true := by simp; omega
    have e2 : (!(sL W m0 == 0)) = true := by simpa using hz
    rw [e1, e2]

/-- Behind k reads: the memory, the first answer. -/
def SLoop (nb bm bw fb : Nat) (W : Int) (m0 : List Int) (w7 : World) (k : Nat) (wr : World) : Prop :=
  ∃ ms code fa fn fc valid, Like W m0 ms ∧ MemAt wr bm bw ms ∧ Below nb w7 wr ∧ Blk wr fb #[.int .i64 code, .slice fa fn fc, .bool valid, .int .i64 0] 51 ∧
    (1 ≤ k → code = ansCode W m0 ∧ valid = ansValid W m0 ∧ fn = ansN W m0 ∧ SliceIs wr fa fn (sX W m0 fn) ∧ ∀ x, blockOf fa = some x → x < wr.heap.size ∧ x ≠ bw ∧ x ≠ fb)

/-- Within a read, behind j of its steps. -/
def SIn (bm bw rb db : Nat) (W per : Int) (m0 : List Int) (w9 : World) (j : Nat) (wi : World) : Prop :=
  ∃ q da dc ms d, RI W m0 j q ∧ Like W m0 ms ∧ MemAt wi bm bw ms ∧ RdAt wi rb da dc 1 (12 + 4 * W) W per q ∧ Blk wi db (DidV.cells d) 53 ∧ Keeps [bw, rb, db] w9 wi ∧ ∀ x, rown da dc q = some x → w9.heap.size ≤ x

set_option maxRecDepth 100000 in
set_option maxHeartbeats 8000000 in
theorem FourStays_any (u : Int) (hu0 : 0 ≤ u) (hu1 : u ≤ 255) (tk : Int) (ht0 : 0 ≤ tk) (ht1 : tk ≤ 255) (sa : Option Addr) (n c : Nat) (B : Nat → Bool) (hn : n ≤ 9223372036854775807) (w : World)
    (hc : ∀ i, i < n → ∃ b o, sa = some ⟨b, o, none⟩ ∧ w.cell? ⟨b, o + i, none⟩ = some (.bool (B i))) :
    Calls Try.prog 6 #[.int .u8 u, .slice sa n c, .int .u8 tk] w (LawTo w) := by
  have Hc := Lib.hid hc
  clear hc
  by_cases hbig : n > 300
  · have hb1 : (300 : Int) < (n : Int) := by omega
    go_enter Try.func6, Try.ntmps6
    go_wp2_with (first | (go_at_call 7; (with_reducible refine (wakes_any _).mono ?_); rintro e w0 ⟨rfl, hk0⟩) | (fail))
    go_ret
    exact ⟨rfl, below_keeps (Below.refl _ _) hk0 (by simp) (Nat.le_refl _)⟩
  · have hb1 : ¬ (300 : Int) < (n : Int) := by omega
    have hu4 : u.tmod 4 = u % 4 := Int.tmod_eq_emod_of_nonneg hu0
    have hm0 := Int.emod_nonneg u (show (4 : Int) ≠ 0 by decide)
    have hm1 := Int.emod_lt_of_pos u (show (0 : Int) < 4 by decide)
    have hw1 : IntKind.i64.wrap u = u := wrap_i64 (by omega) (by omega)
    have hw2 : IntKind.i64.wrap (u % 4) = u % 4 := wrap_i64 (by omega) (by omega)
    have hw3 : IntKind.i64.wrap (1 + u % 4) = 1 + u % 4 := wrap_i64 (by omega) (by omega)
    go_enter Try.func6, Try.ntmps6
    go_wp2_with (first | (go_at_call 7; (with_reducible refine (wakes_any _).mono ?_); rintro e w0 ⟨rfl, hk0⟩) | (go_at_call 8; (with_reducible refine (two_any (1 + u % 4) 1048576 _ (by omega) (by omega) (by omega) (by omega)).mono ?_); rintro e w1 ⟨pb, cb, f0, f1, rfl, hk1, hC1, hbl1⟩; have hacc := two_acc pb cb f0 f1 (1 + u % 4) 1048576 (by omega) (by omega) (by omega) (by omega); have HC1 := Lib.hid hC1; clear hC1; have HK1 := Lib.hid (hk0.trans hk1 : Keeps [] w w1); have hz1 := hk1.size; clear hk1; simp only [CfgV.cells]) | (go_at_call 10; (with_reducible refine (refSize_any (twoC pb cb f0 f1 (1 + u % 4) 1048576) hacc _ (HC1.out.kept (by (repeat' with_reducible (first | exact Keeps.refl _ _ | assumption | apply Keeps.drew | apply Keeps.drewN | apply Keeps.alloc))))).mono ?_); rintro e w2 ⟨rfl, hk2⟩; rw [two_b1]; have B1 : Blk w2 w1.heap.size (twoC pb cb f0 f1 (1 + u % 4) 1048576).cells 31 := Blk.keep (l := []) (by (repeat' (first | with_reducible (first | assumption | apply Blk.drew | (refine Blk.newAt ?_; first | rfl | (simp; done)) | apply Blk.alloc)))) hk2 (by simp); have HB1 := Lib.hid B1; clear B1) | (go_at_call 9; (with_reducible refine (New_at ((13 + 4 * (1 + u % 4)).toNat) _ (by omega) _ (by omega)).mono ?_); rintro e w3 ⟨bm, bw, rfl, hk3, hbm, hbw, hM3⟩; have B3 := HB1.out.keep hk3 (by simp); have C3 := B3.cell; have L3 := B3.lt; have HB3 := Lib.hid B3; clear B3; have HC3 := Lib.hid (HC1.out.kept (Keeps.trans (Keeps.trans (by (repeat' with_reducible (first | exact Keeps.refl _ _ | assumption | apply Keeps.drew | apply Keeps.drewN | apply Keeps.alloc))) hk2) hk3)); have HM3 := Lib.hid hM3; clear hM3; have HK3 := Lib.hid (Keeps.trans HK1.out (Keeps.trans (Keeps.trans (by (repeat' with_reducible (first | exact Keeps.refl _ _ | assumption | apply Keeps.drew | apply Keeps.drewN | apply Keeps.alloc))) hk2) hk3) : Keeps [] w w3)) | (fail))
    have hz0 := hk0.size
    have hz2 := hk2.size
    simp at hz2
    have hnb : w2.heap.size ≤ w3.heap.size := hk3.size
    have hcb := HB3.out.alloc (.cells (plCells (twoC pb cb f0 f1 (1 + u % 4) 1048576) bm (.pointer none) (.pointer none) 0 0 0 0 0 0 0 0) 43)
    have hk34 : Keeps [] w3 (w3.alloc (.cells (plCells (twoC pb cb f0 f1 (1 + u % 4) 1048576) bm (.pointer none) (.pointer none) 0 0 0 0 0 0 0 0) 43)) := (Keeps.refl _ _).alloc _
    have hC4 := HC3.out.kept hk34
    have hb4 : Below w.heap.size w (w3.alloc (.cells (plCells (twoC pb cb f0 f1 (1 + u % 4) 1048576) bm (.pointer none) (.pointer none) 0 0 0 0 0 0 0 0) 43)) := below_keeps (l := []) (Below.refl _ _) (HK3.out.alloc _) (by simp) (Nat.le_refl _)
    have hcl : ∀ x, x ∈ (twoC pb cb f0 f1 (1 + u % 4) 1048576).blocks → x < w2.heap.size := fun x hx => by have := two_blk HC1.out x hx; omega
    have hP0 : PlayOn w2.heap.size (twoC pb cb f0 f1 (1 + u % 4) 1048576) w3.heap.size bm bw (1 + u % 4) 1048576 0 (w3.alloc (.cells (plCells (twoC pb cb f0 f1 (1 + u % 4) 1048576) bm (.pointer none) (.pointer none) 0 0 0 0 0 0 0 0) 43)) (w3.alloc (.cells (plCells (twoC pb cb f0 f1 (1 + u % 4) 1048576) bm (.pointer none) (.pointer none) 0 0 0 0 0 0 0 0) 43)) := by
      refine ⟨0, 0, 0, 0, none, 0, PSt.start (1 + u % 4), ⟨Blk.new _ _ _, ⟨HM3.out.alloc _, hC4, ?_, ⟨by omega, by omega, by omega⟩, ?_, ?_, fun a => absurd rfl a, fun a => absurd rfl a, fun a _ => absurd rfl a⟩⟩, PInv.start (by omega), Int.le_refl _, Below.refl _ _⟩
      · intro x hx; have := two_blk HC3.out x hx; simp; omega
      · have := HM3.out.hm.lt; have := HM3.out.hw.lt; omega
      · intro x hx
        have a1 := two_blk HC3.out x hx
        have a2 := hcl x hx
        omega
    have hcn : w1.heap.size < w2.heap.size := by omega
    have hwn : w.heap.size ≤ w2.heap.size := by omega
    have hs34 : w2.heap.size ≤ (w3.alloc (.cells (plCells (twoC pb cb f0 f1 (1 + u % 4) 1048576) bm (.pointer none) (.pointer none) 0 0 0 0 0 0 0 0) 43)).heap.size := by simp; omega
    have hbm2 : w2.heap.size ≤ bm := by omega
    have hbw2 : w2.heap.size ≤ bw := by omega
    have HP0 := Lib.hid hP0
    have Hcb := Lib.hid hcb
    have HC4 := Lib.hid hC4
    have Hb4 := Lib.hid hb4
    have Hcl := Lib.hid hcl
    clear hbl1 hk0 hk2 hk3 C3 L3 HB3 HC1 HC3 HM3 HK1 HK3 HB1 hbm hbw hz0 hz1 hz2 hnb hcb hk34 hC4 hb4 hcl hP0
    generalize hpl : w3.heap.size = pl at *
    generalize w3.alloc (.cells (plCells (twoC pb cb f0 f1 (1 + u % 4) 1048576) bm (.pointer none) (.pointer none) 0 0 0 0 0 0 0 0) 43) = w4 at *
    generalize w2.heap.size = nb at *
    generalize w1.heap.size = ck at *
    clear hpl
    go_loopw [45] (fun x wr => ∃ i : Nat, i ≤ n ∧ x = .int .i64 i ∧ PlayOn nb (twoC pb cb f0 f1 (1 + u % 4) 1048576) pl bm bw (1 + u % 4) 1048576 i w4 wr) (fun x _ => n - (intOf x).toNat)
    case atStart => exact ⟨0, by omega, rfl, HP0.out⟩
    case round =>
      obtain ⟨i, hi, rfl, wb, wbd, cap, rb, da, dc, P, hP, hI, hPn, hB⟩ := hrel
      have HP := Lib.hid hP
      have HI := Lib.hid hI
      have HB := Lib.hid hB
      have hbs : nb ≤ wr.heap.size := Nat.le_trans hs34 hB.size
      clear hP hI hB
      by_cases hin : i < n
      · obtain ⟨ab, ao, rfl, hcl⟩ := Hc.out i hin
        have hbb := lt_of_cell hcl
        have hcr : wr.cell? ⟨ab, ao + i, none⟩ = some (.bool (B i)) := (HB.out.cell (p := ⟨ab, ao + i, none⟩) (by dsimp only; omega)).trans ((Hb4.out.cell (p := ⟨ab, ao + i, none⟩) hbb).trans hcl)
        have hi1 : (i : Int) < (n : Int) := by omega
        have hi0 : (0 : Int) ≤ (i : Int) := Int.natCast_nonneg _
        have hi6 : (i : Int) ≤ 300 := by omega
        clear hcl
        cases hBi : B i
        · rw [hBi] at hcr
          go_wp2_with (first | (go_at_call 12; (with_reducible refine (read_any nb pl pb cb f0 f1 bm bw wb wbd cap rb da dc (1 + u % 4) 1048576 _ P _ HP.out hbs HI.out (by omega) (by omega) hacc (by omega) (by omega) (by omega)).mono ?_); rintro e w5 ⟨rb', da', dc', Q, rfl, hb5, hP5, hI5, hQn, hQs⟩; have HR5 := Lib.hid (And.intro hb5 (And.intro hP5 hI5)); clear hb5 hP5 hI5) | (fail))
          go_roundw
          case rel => exact ⟨i + 1, by omega, by go_num, wb, wbd, cap, rb', da', dc', Q, HR5.out.2.1, HR5.out.2.2, by omega, HB.out.trans HR5.out.1⟩
          case measure => simp [intOf]; omega
        · rw [hBi] at hcr
          go_wp2_with (first | (go_at_call 11; (with_reducible refine (write_any nb pl pb cb f0 f1 bm bw wb wbd cap rb da dc (1 + u % 4) 1048576 _ P _ HP.out hbs HI.out (by omega) (by omega) hacc (by omega) (by omega) (by omega)).mono ?_); rintro e w5 ⟨wb', wbd', cap', rfl, hb5, hP5⟩; have HR5 := Lib.hid (And.intro hb5 hP5); clear hb5 hP5) | (fail))
          go_roundw
          case rel =>
            obtain ⟨q1, q2, q3⟩ := HI.out.wnew
            exact ⟨i + 1, by omega, by go_num, wb', wbd', cap', rb, da, dc, _, HR5.out.2, (q1.write (by omega) (by omega) q2 _ hi0 (by omega) (by omega)).1, by show P.wnew.n ≤ _; omega, HB.out.trans HR5.out.1⟩
          case measure => simp [intOf]; omega
      · obtain rfl : i = n := by omega
        have hi1 : ¬ (i : Int) < (i : Int) := by omega
        have HPO : Hid (PlayOn nb (twoC pb cb f0 f1 (1 + u % 4) 1048576) pl bm bw (1 + u % 4) 1048576 i w4 wr) := Lib.hid ⟨wb, wbd, cap, rb, da, dc, P, HP.out, HI.out, hPn, HB.out⟩
        clear HP HI HB hPn
        go_upto_region 17 with fail
        go_upto_block 2 with fail
        go_cut [] (fun wx => PlayOn nb (twoC pb cb f0 f1 (1 + u % 4) 1048576) pl bm bw (1 + u % 4) 1048576 i w4 wx)
        case first =>
          go_wp2_with fail
          go_loopw [58] (fun x wr => ∃ j : Nat, j ≤ 40 ∧ x = .int .i64 j ∧ PlayOn nb (twoC pb cb f0 f1 (1 + u % 4) 1048576) pl bm bw (1 + u % 4) 1048576 i w4 wr) (fun x _ => 40 - (intOf x).toNat)
          case atStart => exact ⟨0, by omega, rfl, HPO.out⟩
          case round =>
            obtain ⟨j, hj, rfl, wb, wbd, cap, rb, da, dc, P, hP, hI, hPn, hB⟩ := hrel
            have HP := Lib.hid hP
            have HI := Lib.hid hI
            have HB := Lib.hid hB
            have hbs : nb ≤ wr.heap.size := Nat.le_trans hs34 hB.size
            have hpc := hP.obj.cell
            clear hP hI hB
            by_cases hj4 : j < 40
            · have hj1 : (j : Int) < 40 := by omega
              have hj0 : (0 : Int) ≤ (j : Int) := Int.natCast_nonneg _
              by_cases hs : P.q.stage = 6
              · rw [radr_nil hs] at hpc
                go_wp2_with fail
                go_meet
                exact ⟨wb, wbd, cap, rb, da, dc, P, HP.out, HI.out, hPn, HB.out⟩
              · rw [radr_on hs] at hpc
                go_wp2_with (first | (go_at_call 12; (with_reducible refine (read_any nb pl pb cb f0 f1 bm bw wb wbd cap rb da dc (1 + u % 4) 1048576 300 P _ HP.out hbs HI.out (by omega) (by omega) hacc (by omega) (by omega) (by omega)).mono ?_); rintro e w5 ⟨rb', da', dc', Q, rfl, hb5, hP5, hI5, hQn, hQs⟩; have HR5 := Lib.hid (And.intro hb5 (And.intro hP5 hI5)); clear hb5 hP5 hI5) | (fail))
                go_roundw
                case rel => exact ⟨j + 1, by omega, by go_num, wb, wbd, cap, rb', da', dc', Q, HR5.out.2.1, HR5.out.2.2, by omega, HB.out.trans HR5.out.1⟩
                case measure => simp [intOf]; omega
            · obtain rfl : j = 40 := by omega
              have hj1 : ¬ ((40 : Nat) : Int) < 40 := by omega
              go_wp2_with fail
              go_meet
              exact ⟨wb, wbd, cap, rb, da, dc, P, HP.out, HI.out, hPn, HB.out⟩
        case rest =>
          obtain ⟨wb, wbd, cap, rb0, da0, dc0, P, hP, hI, hPn, hB⟩ := hcut
          have hlike : Like (1 + u % 4) P.ms P.ms := ⟨hI.len, fun _ _ => rfl, hI.ok⟩
          have hM := hP.parts.mem
          have hCc := hP.parts.cfg
          have hck := Hcb.out.keep (below_to_keeps hB) (not_in_range hcn)
          generalize P.ms = m0 at *
          clear hP hI hPn
          have HM := Lib.hid hM
          have HCc := Lib.hid hCc
          have Hck := Lib.hid hck
          have HB := Lib.hid hB
          have HL := Lib.hid hlike
          have hwcs := hB.size
          have hmm := hM.hm.lt
          have hmw := hM.hw.lt
          clear hM hCc hck hB hlike HPO HP0 Hcb HC4
          go_wp2_with fail
          have hF7 := Blk.new wc #[.int .i64 0, .slice none 0 0, .bool false, .int .i64 0] 51
          have k7 : Keeps [] wc (wc.alloc (.cells #[.int .i64 0, .slice none 0 0, .bool false, .int .i64 0] 51)) := (Keeps.refl _ _).alloc _
          have HF7 := Lib.hid hF7
          have HC7 := Lib.hid (HCc.out.kept k7)
          have Hck7 := Lib.hid (Hck.out.keep k7 (by simp))
          have HM7 := Lib.hid (HM.out.keep k7 (by simp) (by simp))
          have HB7 := Lib.hid (below_keeps HB.out k7 (by simp) hs34)
          have hsz7 : wc.heap.size < (wc.alloc (.cells #[.int .i64 0, .slice none 0 0, .bool false, .int .i64 0] 51)).heap.size := by simp
          have hfb : bm ≠ wc.heap.size ∧ bw ≠ wc.heap.size := by omega
          have hfn : nb ≤ wc.heap.size := by omega
          clear hF7 k7 HCc Hck HM HB
          generalize wc.alloc (.cells #[.int .i64 0, .slice none 0 0, .bool false, .int .i64 0] 51) = w7 at *
          generalize wc.heap.size = fb at *
          go_loopw [68] (fun x wr => ∃ k : Nat, k ≤ 3 ∧ x = .int .i64 k ∧ SLoop nb bm bw fb (1 + u % 4) m0 w7 k wr) (fun x _ => 3 - (intOf x).toNat)
          case atStart => exact ⟨0, by omega, rfl, m0, 0, none, 0, 0, false, HL.out, HM7.out, Below.refl _ _, HF7.out, fun a => absurd a (by omega)⟩
          case round =>
            obtain ⟨k, hk, rfl, ms, code, fa, fn, fc, valid, hl, hm, hb, hf, hs⟩ := hrel
            obtain ⟨wo, rfl⟩ : ∃ wo : World, wo = wr := ⟨_, rfl⟩
            have hbl := below_to_keeps hb
            have Hck8 := Lib.hid (Hck7.out.keep hbl (not_in_range hcn))
            have HC8 := Lib.hid (HC7.out.keep hbl (fun x a => not_in_range (Hcl.out x a)))
            have Hl := Lib.hid hl
            have Hm := Lib.hid hm
            have Hb := Lib.hid hb
            have Hf := Lib.hid hf
            have Hs := Lib.hid hs
            have hwo := hb.size
            have hk0 : (0 : Int) ≤ (k : Int) := Int.natCast_nonneg _
            have hckc := Hck8.out.cell
            clear hl hm hb hf hs hbl
            by_cases hk3 : k < 3
            · have hk1 : (k : Int) < 3 := by omega
              have hkt : 0 ≤ (k : Int) * tk ∧ (k : Int) * tk ≤ 510 := by
                have e : k = 0 ∨ k = 1 ∨ k = 2 := by omega
                rcases e with rfl | rfl | rfl <;> simp <;> omega
              have hw4 : IntKind.i64.wrap tk = tk := wrap_i64 (by omega) (by omega)
              have hw5 : IntKind.i64.wrap ((k : Int) * tk) = (k : Int) * tk := wrap_i64 (by omega) (by omega)
              have hw6 : IntKind.i64.wrap (300 + (k : Int) * tk) = 300 + (k : Int) * tk := wrap_i64 (by omega) (by omega)
              obtain ⟨hkt0, hkt1⟩ := hkt
              go_upto_block 6 with (first | (go_at_call 15; (with_reducible refine (NewReader_at (twoC pb cb f0 f1 (1 + u % 4) 1048576) 0 _ (by simp) (by simp) hacc _ HC8.out).mono ?_); rintro e w8 ⟨rb, rfl, hk8, hrb, hR8⟩; have hz8 := hk8.size; have HR8 := Lib.hid hR8; have HK8 := Lib.hid hk8; clear hR8 hk8) | (fail))
              have hD9 := Blk.new w8 #[.bool false, .int .i64 0, .slice none 0 0, .bool false, .int .i64 0, .bool false, .bool false, .bool false, .int .i64 0] 53
              have k9 : Keeps [] w8 (w8.alloc (.cells #[.bool false, .int .i64 0, .slice none 0 0, .bool false, .int .i64 0, .bool false, .bool false, .bool false, .int .i64 0] 53)) := (Keeps.refl _ _).alloc _
              have k89 := HK8.out.trans k9
              have hR9 := HR8.out.keep k9 (by simp)
              rw [two_b0, two_sz, show (1 : Int) + (11 + 4 * (1 + u % 4)) = 12 + 4 * (1 + u % 4) by omega] at hR9
              have hm9 := Hm.out.keep k89 (by simp) (by simp)
              have hsz9 : (w8.alloc (.cells #[.bool false, .int .i64 0, .slice none 0 0, .bool false, .int .i64 0, .bool false, .bool false, .bool false, .int .i64 0] 53)).heap.size = w8.heap.size + 1 := by simp
              have hfl := Hf.out.lt
              have hml := Hm.out.hm.lt
              have hml2 := Hm.out.hw.lt
              have hrl := HR8.out.lt
              have HR9 := Lib.hid hR9
              have HM9 := Lib.hid hm9
              have HD9 := Lib.hid hD9
              have HK9 := Lib.hid k89
              clear hR9 hm9 hD9 k9 k89 HK8 HR8
              generalize w8.alloc (.cells #[.bool false, .int .i64 0, .slice none 0 0, .bool false, .int .i64 0, .bool false, .bool false, .bool false, .int .i64 0] 53) = w9 at *
              generalize w8.heap.size = db at *
              have hne : bw ≠ rb ∧ bw ≠ db ∧ bm ≠ rb ∧ bm ≠ db ∧ rb ≠ db ∧ fb ≠ rb ∧ fb ≠ db := by omega
              have h9n : nb ≤ w9.heap.size := by omega
              go_wp2_with fail
              go_loopw [73] (fun x wi => ∃ j : Nat, j ≤ 40 ∧ x = .int .i64 j ∧ SIn bm bw rb db (1 + u % 4) 1048576 m0 w9 j wi) (fun x _ => 40 - (intOf x).toNat)
              case atStart => exact ⟨0, by omega, rfl, ⟨0, 0, 0, 0, 0, []⟩, none, 0, ms, {}, RI.start _ _, Hl.out, HM9.out, ⟨HR9.out, World.ownsRow_nil _ _ _ _⟩, HD9.out, Keeps.refl _ _, fun x hx => absurd hx (by simp [rown, Value.ownBlock])⟩
              case round =>
                obtain ⟨j, hj, rfl, q, da, dc, mi, ⟨y0, y1, y2, y3, y4, y5, y6, y7, y8, y9, y10⟩, hri, hli, hmi, hrd, hdb, hki, hoi⟩ := hrel
                have hj4 := hri.small (by omega : 1 + u % 4 ≤ 16)
                have hj1 : (j : Int) < 40 := by omega
                have hj0 : (0 : Int) ≤ (j : Int) := Int.natCast_nonneg _
                obtain ⟨hl2, hstep⟩ := fin_step (per := 1048576) (now := 300 + (k : Int) * tk) hri hli (by omega) (by omega)
                have hown : ∀ x, x ∈ (rb :: bw :: (Value.slice da q.xs.length dc).ownBlock.toList) → x = rb ∨ x = bw ∨ w9.heap.size ≤ x := by
                  intro x hx
                  simp only [List.mem_cons, Option.mem_toList] at hx
                  rcases hx with a | a | a
                  · exact .inl a
                  · exact .inr (.inl a)
                  · exact .inr (.inr (hoi x a))
                simp only [DidV.cells] at hdb
                have Hri := Lib.hid hri
                have Hli := Lib.hid hli
                have Hmi := Lib.hid hmi
                have Hrd := Lib.hid hrd
                have Hdb := Lib.hid hdb
                have Hki := Lib.hid hki
                have Hoi := Lib.hid hoi
                have Hl2 := Lib.hid hl2
                have Hown := Lib.hid hown
                have hwi := hki.size
                clear hri hli hmi hrd hdb hki hoi hl2 hown
                rcases hstep with ⟨hgo, hdone⟩ | ⟨hxs, buf, hfin⟩
                · have Hgo := Lib.hid hgo
                  have Hdn := Lib.hid hdone
                  clear hgo hdone
                  go_wp2_with (first | (go_at_call 16; (with_reducible refine (RStep_any rb bm bw dc da 1 (12 + 4 * (1 + u % 4)) (1 + u % 4) 1048576 q mi (300 + (k : Int) * tk) _ Hmi.out Hrd.out Hli.out.ok (Hli.out.geo (by omega) (by omega)) Hri.out.rok (by omega) (by omega) ?_ ?_ ?_ ?_ ?_).mono ?_); (omega); (omega); (intro e; have := Hoi.out rb e.symm; omega); (intro e; have := Hoi.out bm e.symm; omega); (intro e; have := Hoi.out bw e.symm; omega); rintro e w6 ⟨da6, dc6, rfl, hk6, hm6, hr6, ho6⟩; have hd6 := Hdn.out da6 dc6; have B6 := Hdb.out.keep hk6 (fun a => by rcases Hown.out _ a with b | b | b <;> omega); have C6 := B6.cell; have F6 := B6.frozen; have L6 := B6.lt; have H6 := Lib.hid (And.intro B6 (And.intro hk6 (And.intro hm6 (And.intro hr6 ho6)))); clear B6 hk6 hm6 hr6 ho6; (generalize rdid 1 (1 + u % 4) 1048576 q mi (300 + (k : Int) * tk) da6 dc6 = r at *; obtain ⟨z0, z1, z2, z3, z4, z5, z6, z7, z8, z9, z10⟩ := r; dsimp only at hd6; subst hd6; simp only [DidV.cells])) | (fail))
                  go_roundw
                  case rel =>
                    obtain ⟨B6, hk6, hm6, hr6, ho6⟩ := H6.out
                    have k10 : Keeps [db] w6 (((((((((w6.setCell ⟨db, 0, none⟩ (.bool false)).setCell ⟨db, 1, none⟩ (.int .i64 z1)).setCell ⟨db, 2, none⟩ (.slice z2 z3 z4)).setCell ⟨db, 3, none⟩ (.bool z5)).setCell ⟨db, 4, none⟩ (.int .i64 z6)).setCell ⟨db, 5, none⟩ (.bool z7)).setCell ⟨db, 6, none⟩ (.bool z8)).setCell ⟨db, 7, none⟩ (.bool z9)).setCell ⟨db, 8, none⟩ (.int .i64 z10)) := by (repeat' with_reducible (first | exact Keeps.refl _ _ | (refine Keeps.setCell ?_ (by simp) _)))
                    have ho7 : ∀ x, rown da6 dc6 (rstep 1 (12 + 4 * (1 + u % 4)) (1 + u % 4) q mi).1 = some x → w9.heap.size ≤ x := by
                      intro x hx
                      rcases ho6 with a | ⟨g, a, b⟩
                      · exact Hoi.out x (a.symm.trans hx)
                      · have := Option.some.inj (a.symm.trans hx); omega
                    refine ⟨j + 1, by omega, by go_num, _, da6, dc6, _, ⟨false, z1, z2, z3, z4, z5, z6, z7, z8, z9, z10⟩, Hgo.out, Hl2.out, hm6.keep k10 (by simp; omega) (by simp; omega), hr6.keep k10 (by simp; omega) (fun x hx => by have := ho7 x hx; simp; omega), B6.nine, (Hki.out.freshL hk6 (fun x hx => by rcases Hown.out x hx with b | b | b <;> simp [b])).freshL k10 (fun x hx => by simp at hx; simp [hx]), ho7⟩
                  case measure => simp [intOf]; omega
                · have Hxs := Lib.hid hxs
                  have Hfin := Lib.hid hfin
                  clear hxs hfin
                  go_upto_region 33 with (first | (go_at_call 16; (with_reducible refine (RStep_any rb bm bw dc da 1 (12 + 4 * (1 + u % 4)) (1 + u % 4) 1048576 q mi (300 + (k : Int) * tk) _ Hmi.out Hrd.out Hli.out.ok (Hli.out.geo (by omega) (by omega)) Hri.out.rok (by omega) (by omega) ?_ ?_ ?_ ?_ ?_).mono ?_); (omega); (omega); (intro e; have := Hoi.out rb e.symm; omega); (intro e; have := Hoi.out bm e.symm; omega); (intro e; have := Hoi.out bw e.symm; omega); rintro e w6 ⟨da6, dc6, rfl, hk6, hm6, hr6, ho6⟩; obtain ⟨a6, c6, hd6, ha6⟩ := Hfin.out da6 dc6; rw [hd6]; have B6 := Hdb.out.keep hk6 (fun a => by rcases Hown.out _ a with b | b | b <;> omega); have C6 := B6.cell; have F6 := B6.frozen; have L6 := B6.lt; have H6 := Lib.hid (And.intro B6 (And.intro hk6 (And.intro hm6 (And.intro hr6 (And.intro ho6 ha6))))); clear B6 hk6 hm6 hr6 ho6 hd6 ha6; simp only [DidV.cells]) | (fail))
                  obtain ⟨B6, hk6, hm6, hr6, ho6, ha6⟩ := H6.out
                  have B10 := B6.nine (y0 := .bool true) (y1 := .int .i64 (ansCode (1 + u % 4) m0)) (y2 := .slice a6 (ansN (1 + u % 4) m0) c6) (y3 := .bool (ansValid (1 + u % 4) m0)) (y4 := .int .i64 0) (y5 := .bool false) (y6 := .bool false) (y7 := .bool false) (y8 := .int .i64 buf)
                  have k10 : Keeps [db] w6 (((((((((w6.setCell ⟨db, 0, none⟩ (.bool true)).setCell ⟨db, 1, none⟩ (.int .i64 (ansCode (1 + u % 4) m0))).setCell ⟨db, 2, none⟩ (.slice a6 (ansN (1 + u % 4) m0) c6)).setCell ⟨db, 3, none⟩ (.bool (ansValid (1 + u % 4) m0))).setCell ⟨db, 4, none⟩ (.int .i64 0)).setCell ⟨db, 5, none⟩ (.bool false)).setCell ⟨db, 6, none⟩ (.bool false)).setCell ⟨db, 7, none⟩ (.bool false)).setCell ⟨db, 8, none⟩ (.int .i64 buf)) := by (repeat' with_reducible (first | exact Keeps.refl _ _ | (refine Keeps.setCell ?_ (by simp) _)))
                  have ho7 : ∀ x, rown da6 dc6 (rstep 1 (12 + 4 * (1 + u % 4)) (1 + u % 4) q mi).1 = some x → w9.heap.size ≤ x := by
                    intro x hx
                    rcases ho6 with a | ⟨g, a, b⟩
                    · exact Hoi.out x (a.symm.trans hx)
                    · have := Option.some.inj (a.symm.trans hx); omega
                  have hm10 := hm6.keep k10 (by simp; omega) (by simp; omega)
                  have hr10 := hr6.keep k10 (by simp; omega) (fun x hx => by have := ho7 x hx; simp; omega)
                  have k11 := (Hki.out.freshL hk6 (fun x hx => by rcases Hown.out x hx with b | b | b <;> simp [b])).freshL k10 (fun x hx => by simp at hx; simp [hx])
                  have hsl : SliceIs (((((((((w6.setCell ⟨db, 0, none⟩ (.bool true)).setCell ⟨db, 1, none⟩ (.int .i64 (ansCode (1 + u % 4) m0))).setCell ⟨db, 2, none⟩ (.slice a6 (ansN (1 + u % 4) m0) c6)).setCell ⟨db, 3, none⟩ (.bool (ansValid (1 + u % 4) m0))).setCell ⟨db, 4, none⟩ (.int .i64 0)).setCell ⟨db, 5, none⟩ (.bool false)).setCell ⟨db, 6, none⟩ (.bool false)).setCell ⟨db, 7, none⟩ (.bool false)).setCell ⟨db, 8, none⟩ (.int .i64 buf)) a6 (ansN (1 + u % 4) m0) (sX (1 + u % 4) m0 (ansN (1 + u % 4) m0)) := by
                    rcases ha6 with rfl | ⟨_, e0⟩
                    · have q1 := SliceIs.ofRow hr10.data
                      rw [Hxs.out, sX_len] at q1
                      exact q1
                    · rw [e0]; exact SliceIs.nil _ _ _
                  have ha10 : ∀ x, blockOf a6 = some x → x < ((((((((((w6.setCell ⟨db, 0, none⟩ (.bool true)).setCell ⟨db, 1, none⟩ (.int .i64 (ansCode (1 + u % 4) m0))).setCell ⟨db, 2, none⟩ (.slice a6 (ansN (1 + u % 4) m0) c6)).setCell ⟨db, 3, none⟩ (.bool (ansValid (1 + u % 4) m0))).setCell ⟨db, 4, none⟩ (.int .i64 0)).setCell ⟨db, 5, none⟩ (.bool false)).setCell ⟨db, 6, none⟩ (.bool false)).setCell ⟨db, 7, none⟩ (.bool false)).setCell ⟨db, 8, none⟩ (.int .i64 buf))).heap.size ∧ x ≠ bw ∧ x ≠ fb := by
                    intro x hx
                    rcases ha6 with rfl | ⟨rfl, _⟩
                    · have hx2 : rown a6 dc6 (rstep 1 (12 + 4 * (1 + u % 4)) (1 + u % 4) q mi).1 = some x := by
                        cases a6 with
                        | none => simp [blockOf] at hx
                        | some a => simpa [blockOf, rown, Value.ownBlock] using hx
                      have := ho7 x hx2
                      exact ⟨rown_lt hr10 hx2, by omega, by omega⟩
                    · simp [blockOf] at hx
                  have hf10 := (Hf.out.keep HK9.out (by simp)).keep k11 (by simp; omega)
                  have hsz := k11.size
                  have hnl : ansN (1 + u % 4) m0 ≤ 16 := by unfold ansN sF; split <;> (try split) <;> omega
                  have hb10 := below_keeps (below_keeps Hb.out HK9.out (by simp) (by omega)) k11 (by simp; omega) (by omega)
                  have h3 : ∀ (hx : 1 ≤ k), SliceIs ((((((((((w6.setCell ⟨db, 0, none⟩ (.bool true)).setCell ⟨db, 1, none⟩ (.int .i64 (ansCode (1 + u % 4) m0))).setCell ⟨db, 2, none⟩ (.slice a6 (ansN (1 + u % 4) m0) c6)).setCell ⟨db, 3, none⟩ (.bool (ansValid (1 + u % 4) m0))).setCell ⟨db, 4, none⟩ (.int .i64 0)).setCell ⟨db, 5, none⟩ (.bool false)).setCell ⟨db, 6, none⟩ (.bool false)).setCell ⟨db, 7, none⟩ (.bool false)).setCell ⟨db, 8, none⟩ (.int .i64 buf))) fa fn (sX (1 + u % 4) m0 fn) ∧ ∀ x, blockOf fa = some x → x < ((((((((((w6.setCell ⟨db, 0, none⟩ (.bool true)).setCell ⟨db, 1, none⟩ (.int .i64 (ansCode (1 + u % 4) m0))).setCell ⟨db, 2, none⟩ (.slice a6 (ansN (1 + u % 4) m0) c6)).setCell ⟨db, 3, none⟩ (.bool (ansValid (1 + u % 4) m0))).setCell ⟨db, 4, none⟩ (.int .i64 0)).setCell ⟨db, 5, none⟩ (.bool false)).setCell ⟨db, 6, none⟩ (.bool false)).setCell ⟨db, 7, none⟩ (.bool false)).setCell ⟨db, 8, none⟩ (.int .i64 buf))).heap.size ∧ x ≠ bw ∧ x ≠ fb := by
                    intro hx
                    obtain ⟨_, _, _, s1, s2⟩ := Hs.out hx
                    refine ⟨(s1.keep HK9.out (fun x a => by simp)).keep k11 (fun x a => by have := s2 x a; simp; omega), fun x a => ?_⟩
                    have := s2 x a
                    have := HK9.out.size
                    omega
                  have H10 := Lib.hid (And.intro B10 (And.intro hm10 (And.intro hsl (And.intro ha10 (And.intro hf10 (And.intro hb10 h3))))))
                  have hdl := B10.lt
                  clear B10 hm10 hr10 k10 k11 hsl ha10 hf10 hb10 h3 hk6 hm6 hr6 ho6 ha6 ho7 B6 C6 F6 L6 H6 Hxs Hfin Hri Hmi Hrd Hdb Hki Hoi Hown hsz
                  generalize (((((((((w6.setCell ⟨db, 0, none⟩ (.bool true)).setCell ⟨db, 1, none⟩ (.int .i64 (ansCode (1 + u % 4) m0))).setCell ⟨db, 2, none⟩ (.slice a6 (ansN (1 + u % 4) m0) c6)).setCell ⟨db, 3, none⟩ (.bool (ansValid (1 + u % 4) m0))).setCell ⟨db, 4, none⟩ (.int .i64 0)).setCell ⟨db, 5, none⟩ (.bool false)).setCell ⟨db, 6, none⟩ (.bool false)).setCell ⟨db, 7, none⟩ (.bool false)).setCell ⟨db, 8, none⟩ (.int .i64 buf)) = w10 at *
                  have C10 := H10.out.1.cell
                  have Cf10 := H10.out.2.2.2.2.1.cell
                  have Ff10 := H10.out.2.2.2.2.1.frozen
                  have Lf10 := H10.out.2.2.2.2.1.lt
                  have hfd : fb ≠ db := by omega
                  have hfd' : db ≠ fb := by omega
                  by_cases hkz : k = 0
                  · subst hkz
                    go_wp2_with (first | (go_at_call 17; (with_reducible refine (SameAnswer_yes _ _ _ a6 a6 _ c6 c6 (sX (1 + u % 4) m0 (ansN (1 + u % 4) m0)) (by omega) _ ?_ ?_).mono ?_); (exact H10.out.2.2.1.keep (l := [fb]) (by (repeat' with_reducible (first | exact Keeps.refl _ _ | (refine Keeps.setCell ?_ (by simp) _)))) (fun x a => by have := H10.out.2.2.2.1 x a; simp; omega)); (exact H10.out.2.2.1.keep (l := [fb]) (by (repeat' with_reducible (first | exact Keeps.refl _ _ | (refine Keeps.setCell ?_ (by simp) _)))) (fun x a => by have := H10.out.2.2.2.1 x a; simp; omega)); rintro e w12 ⟨rfl, hk12⟩) | (fail))
                    go_roundw
                    case rel =>
                      have k13 : Keeps [fb] w10 ((((w10.setCell ⟨fb, 0, none⟩ (.int .i64 (ansCode (1 + u % 4) m0))).setCell ⟨fb, 1, none⟩ (.slice a6 (ansN (1 + u % 4) m0) c6)).setCell ⟨fb, 2, none⟩ (.bool (ansValid (1 + u % 4) m0))).setCell ⟨fb, 3, none⟩ (.int .i64 0)) := by (repeat' with_reducible (first | exact Keeps.refl _ _ | (refine Keeps.setCell ?_ (by simp) _)))
                      have k14 : Keeps [fb] w10 w12 := k13.trans (hk12.mono (by simp))
                      have hz := k14.size
                      refine ⟨1, by omega, rfl, _, _, a6, _, c6, _, Hl2.out, H10.out.2.1.keep k14 (by simp; omega) (by simp; omega), below_keeps H10.out.2.2.2.2.2.1 k14 (by simp; omega) (by omega), H10.out.2.2.2.2.1.four4.keep hk12 (by simp), fun _ => ⟨rfl, rfl, rfl, H10.out.2.2.1.keep k14 (fun x a => by have := H10.out.2.2.2.1 x a; simp; omega), fun x a => ?_⟩⟩
                      have := H10.out.2.2.2.1 x a
                      omega
                    case measure => simp [intOf]
                  · have hk1' : 1 ≤ k := by omega
                    obtain ⟨rfl, rfl, rfl, _, _⟩ := Hs.out hk1'
                    have hke : ((k : Int) == 0) = false := by simp; omega
                    go_wp2_with (first | (go_at_call 17; (with_reducible refine (SameAnswer_yes _ _ _ a6 fa _ c6 fc (sX (1 + u % 4) m0 (ansN (1 + u % 4) m0)) (by omega) _ ?_ ?_).mono ?_); (exact H10.out.2.2.1.keep (l := []) (by (repeat' with_reducible (first | exact Keeps.refl _ _ | assumption | apply Keeps.drew | apply Keeps.drewN | apply Keeps.alloc))) (fun x a => by simp)); (exact (H10.out.2.2.2.2.2.2 hk1').1.keep (l := []) (by (repeat' with_reducible (first | exact Keeps.refl _ _ | assumption | apply Keeps.drew | apply Keeps.drewN | apply Keeps.alloc))) (fun x a => by simp)); rintro e w12 ⟨rfl, hk12⟩) | (fail))
                    go_roundw
                    case rel =>
                      have hz := hk12.size
                      refine ⟨k + 1, by omega, by go_num, _, _, fa, _, fc, _, Hl2.out, H10.out.2.1.keep hk12 (by simp) (by simp), below_keeps H10.out.2.2.2.2.2.1 hk12 (by simp) (by omega), H10.out.2.2.2.2.1.keep hk12 (by simp), fun _ => ⟨rfl, rfl, rfl, (H10.out.2.2.2.2.2.2 hk1').1.keep hk12 (fun x a => by simp), fun x a => ?_⟩⟩
                      have := (H10.out.2.2.2.2.2.2 hk1').2 x a
                      omega
                    case measure => simp [intOf]; omega
            · obtain rfl : k = 3 := by omega
              have hk1 : ¬ ((3 : Nat) : Int) < 3 := by omega
              go_wp2_with fail
              go_ret
              exact ⟨rfl, (Hb4.out.trans (HB7.out.mono hwn)).trans (Hb.out.mono hwn)⟩

end Go.Proofs.Ytpkjffiajidfcaa

/- FourApart of the law, walked. -/
namespace Go.Proofs.Ytpkjffiajidfcaa
open Go.RowKit

theorem cfg_words {w : World} {pb cb f0 f1 : Nat} {wds per : Int} (h : CfgAt w (twoC pb cb f0 f1 wds per)) : w.cell? ⟨cb, 3, none⟩ = some (.int .i64 wds) := by
  obtain ⟨cb', co', hca, hcl, hrow⟩ := h.chans.resolve_left (by simp)
  cases hca
  simpa [chs] using hrow 0 (by simp) 3 (by omega)

theorem rdid_same (src wds per : Int) (q : RSt) (ms : List Int) (now : Int) (da : Option Addr) (dc : Nat) :
    (rdid src wds per q ms now da dc).done = (rdid src wds per q ms now none 0).done ∧ (rdid src wds per q ms now da dc).buffer = (rdid src wds per q ms now none 0).buffer := by
  obtain ⟨st, p, i, l, sp, xs⟩ := q
  match st with
  | 0 => exact ⟨rfl, rfl⟩
  | 1 => exact ⟨rfl, rfl⟩
  | 2 => exact ⟨rfl, rfl⟩
  | 3 => by_cases h : rd ms (bufAt src wds p i).toNat = 0 <;> simp [rdid, h]
  | 4 => exact ⟨rfl, rfl⟩
  | 5 => by_cases h : (xs.length : Int) + 1 < l <;> simp [rdid, h]
  | k + 6 => exact ⟨rfl, rfl⟩

theorem row_of_blk {w : World} {b : Nat} {xs : List Int} {t : TypeId} (h : Blk w b (u32s xs) t) : ∀ j u, (xs.map (Value.int .u32))[j]? = some u → w.cell? ((⟨b, 0, none⟩ : Addr).add j) = some u := by
  intro j u hj
  rw [addr_add, h.cell, u32s, List.getElem?_toArray, Nat.zero_add]
  exact hj

theorem AInv.leftle {W k : Int} {P : ASt} (h : AInv W k P) (hW : 1 ≤ W) : P.left ≤ W + 1 := by
  have i0 := h.i0
  by_cases a : P.s.stage = 3
  · have := h.f3 a; omega
  by_cases b : P.s.stage = 4
  · have := h.f4 b; omega
  · have := h.f0 a b; omega

def ASt.start (W : Int) : ASt := ⟨List.replicate (13 + 4 * W).toNat 0, ⟨7, 0, 0, 0, false⟩, ⟨6, 0, 0, 0, 0, []⟩, 0, 0, 0⟩

theorem AInv.start {W : Int} (hW : 1 ≤ W) : AInv W 0 (ASt.start W) := by
  have h := PInv.start hW
  exact ⟨h.len, h.ok, h.stamp, h.core, Int.le_refl _, fun _ => rfl, fun a => absurd a (show ¬ 7 = 4 by decide), fun _ => rfl, fun a => absurd a (show ¬ 6 = 4 by decide), fun a => absurd a (show ¬ 6 = 5 by decide), fun a => absurd a (show ¬ 7 = 3 by decide), fun a => absurd a (show ¬ 7 = 4 by decide), fun _ _ => ⟨rfl, Int.le_refl _⟩, Int.le_refl _, fun a => absurd a (show ¬ (6 = 4 ∨ 6 = 5) by decide), fun _ _ => rfl⟩

/-- The law's state behind k acts. -/
def AOn (nb : Nat) (cbl : List Nat) (ck bm bw N : Nat) (k : Int) (w4 : World) (v8 v9 v10 v11 v12 : Value) (wr : World) : Prop :=
  ∃ wb wbd cap rb da dc P, v8 = .pointer (wadr wb P.s) ∧ v9 = .pointer (radr rb P.q) ∧ v10 = .int .i64 P.fills ∧ v11 = .int .i64 P.reads ∧ v12 = .int .i64 P.left ∧
    GParts wr nb cbl ck bm bw wb wbd cap N rb da dc 1 (12 + 4 * (N : Int)) N 5 (List.replicate N 0) P.ms P.s P.q ∧ AInv N k P ∧ Below nb w4 wr

set_option maxRecDepth 100000 in
set_option maxHeartbeats 16000000 in
theorem FourApart_any (u : Int) (hu0 : 0 ≤ u) (hu1 : u ≤ 255) (sa : Option Addr) (n c : Nat) (B : Nat → Bool) (hn : n ≤ 9223372036854775807) (w : World)
    (hc : ∀ i, i < n → ∃ b o, sa = some ⟨b, o, none⟩ ∧ w.cell? ⟨b, o + i, none⟩ = some (.bool (B i))) :
    Calls Try.prog 5 #[.int .u8 u, .slice sa n c] w (LawTo w) := by
  have Hc := Lib.hid hc
  clear hc
  by_cases hbig : n > 600
  · have hb1 : (600 : Int) < (n : Int) := by omega
    go_enter Try.func5, Try.ntmps5
    go_wp2_with (first | (go_at_call 7; (with_reducible refine (wakes_any _).mono ?_); rintro e w0 ⟨rfl, hk0⟩) | (fail))
    go_ret
    exact ⟨rfl, below_keeps (Below.refl _ _) hk0 (by simp) (Nat.le_refl _)⟩
  · have hb1 : ¬ (600 : Int) < (n : Int) := by omega
    have hu4 : u.tmod 4 = u % 4 := Int.tmod_eq_emod_of_nonneg hu0
    have hm0 := Int.emod_nonneg u (show (4 : Int) ≠ 0 by decide)
    have hm1 := Int.emod_lt_of_pos u (show (0 : Int) < 4 by decide)
    obtain ⟨N, hN⟩ : ∃ N : Nat, (N : Int) = 1 + u % 4 := ⟨(1 + u % 4).toNat, by omega⟩
    have hN1 : 1 ≤ (N : Int) := by omega
    have hN4 : (N : Int) ≤ 4 := by omega
    have hw1 : IntKind.i64.wrap u = u := wrap_i64 (by omega) (by omega)
    have hw2 : IntKind.i64.wrap (u % 4) = u % 4 := wrap_i64 (by omega) (by omega)
    have hw3 : IntKind.i64.wrap (1 + u % 4) = (N : Int) := by rw [hN]; exact wrap_i64 (by omega) (by omega)
    have HN := Lib.hid hN
    have hmk := make_u32 N (by omega)
    clear hN
    go_enter Try.func5, Try.ntmps5
    go_wp2_with (first | (go_at_call 7; (with_reducible refine (wakes_any _).mono ?_); rintro e w0 ⟨rfl, hk0⟩) | (go_at_call 8; (with_reducible refine (two_any (N : Int) 5 _ (by omega) (by omega) (by omega) (by omega)).mono ?_); rintro e w1 ⟨pb, cb, f0, f1, rfl, hk1, hC1, hbl1⟩; have hacc := two_acc pb cb f0 f1 (N : Int) 5 (by omega) (by omega) (by omega) (by omega); have HC1 := Lib.hid hC1; clear hC1; have HK1 := Lib.hid (hk0.trans hk1 : Keeps [] w w1); have hz1 := hk1.size; clear hk1; simp only [CfgV.cells]) | (go_at_call 10; (with_reducible refine (refSize_any (twoC pb cb f0 f1 (N : Int) 5) hacc _ (HC1.out.kept (by (repeat' with_reducible (first | exact Keeps.refl _ _ | assumption | apply Keeps.drew | apply Keeps.drewN | apply Keeps.alloc))))).mono ?_); rintro e w2 ⟨rfl, hk2⟩; rw [two_b1]; have B1 : Blk w2 w1.heap.size (twoC pb cb f0 f1 (N : Int) 5).cells 31 := Blk.keep (l := []) (by (repeat' (first | with_reducible (first | assumption | apply Blk.drew | (refine Blk.newAt ?_; first | rfl | (simp; done)) | apply Blk.alloc)))) hk2 (by simp); have HB1 := Lib.hid B1; clear B1) | (go_at_call 9; (with_reducible refine (New_at ((13 + 4 * (N : Int)).toNat) _ (by omega) _ (by omega)).mono ?_); rintro e w3 ⟨bm, bw, rfl, hk3, hbm, hbw, hM3⟩; have B3 := HB1.out.keep hk3 (by simp); have C3 := B3.cell; have L3 := B3.lt; have HB3 := Lib.hid B3; clear B3; have HC3 := Lib.hid (HC1.out.kept (Keeps.trans (Keeps.trans (by (repeat' with_reducible (first | exact Keeps.refl _ _ | assumption | apply Keeps.drew | apply Keeps.drewN | apply Keeps.alloc))) hk2) hk3)); have HM3 := Lib.hid hM3; clear hM3; have HK3 := Lib.hid (Keeps.trans HK1.out (Keeps.trans (Keeps.trans (by (repeat' with_reducible (first | exact Keeps.refl _ _ | assumption | apply Keeps.drew | apply Keeps.drewN | apply Keeps.alloc))) hk2) hk3) : Keeps [] w w3); have hch3 := cfg_words HC3.out) | (fail))
    have hs3 := HK3.out.size
    have hz0 := hk0.size
    have hz2 := hk2.size
    simp at hz2
    have hnb : w2.heap.size ≤ w3.heap.size := hk3.size
    have hcl : ∀ x, x ∈ (twoC pb cb f0 f1 (N : Int) 5).blocks → x < w2.heap.size := fun x hx => by have := two_blk HC1.out x hx; omega
    have hP0 : AOn w2.heap.size (twoC pb cb f0 f1 (N : Int) 5).blocks w1.heap.size bm bw N 0 w3 (.pointer none) (.pointer none) (.int .i64 0) (.int .i64 0) (.int .i64 0) w3 := by
      refine ⟨0, 0, 0, 0, none, 0, ASt.start N, rfl, rfl, rfl, rfl, rfl, ⟨HM3.out, ?_, ⟨by omega, by omega⟩, by omega, ?_, fun a => absurd rfl a, fun a => absurd rfl a, fun a _ => absurd rfl a⟩, AInv.start hN1, Below.refl _ _⟩
      · intro x hx; have := hcl x hx; omega
      · intro x hx
        have a1 := two_blk HC1.out x hx
        omega
    have hcn : w1.heap.size < w2.heap.size := by omega
    have hwn : w.heap.size ≤ w2.heap.size := by omega
    have hb3 : Below w.heap.size w w3 := below_keeps (l := []) (Below.refl _ _) HK3.out (by simp) (Nat.le_refl _)
    have HP0 := Lib.hid hP0
    have Hb4 := Lib.hid hb3
    have Hcl := Lib.hid hcl
    have hmb := HM3.out.hm.lt
    clear hbl1 hk0 hk2 hk3 C3 L3 HC1 HM3 HK1 HK3 HB1 hbm hbw hz0 hz1 hz2 hcl hP0 hb3 hs3 hch3
    generalize w2.heap.size = nb at *
    generalize w1.heap.size = ck at *
    go_loopw [8, 9, 10, 11, 12, 47] (fun v8 v9 v10 v11 v12 x wr => ∃ i : Nat, i ≤ n ∧ x = .int .i64 i ∧ AOn nb (twoC pb cb f0 f1 (N : Int) 5).blocks ck bm bw N i w3 v8 v9 v10 v11 v12 wr) (fun _ _ _ _ _ x _ => n - (intOf x).toNat)
    case atStart => exact ⟨0, by omega, rfl, HP0.out⟩
    case round =>
      obtain ⟨i, hi, rfl, wb, wbd, cap, rb, da, dc, P, rfl, rfl, rfl, rfl, rfl, hG, hI, hB⟩ := hrel
      have hbl := below_to_keeps hB
      have HCr := Lib.hid (HC3.out.keep hbl (fun x a => not_in_range (Hcl.out x a)))
      have Hckr := Lib.hid (HB3.out.keep hbl (not_in_range hcn))
      have hckc := Hckr.out.cell
      have hckl := Hckr.out.lt
      have HG := Lib.hid hG
      have HI := Lib.hid hI
      have HB := Lib.hid hB
      have hbs : nb ≤ wr.heap.size := Nat.le_trans hnb hB.size
      have hfl := hI.fl
      have hi0 : (0 : Int) ≤ (i : Int) := Int.natCast_nonneg _
      have hap := hI.apart
      clear hG hI hB hbl
      by_cases hin : i < n
      · obtain ⟨ab, ao, rfl, hcl⟩ := Hc.out i hin
        have hbb := lt_of_cell hcl
        have hcr : wr.cell? ⟨ab, ao + i, none⟩ = some (.bool (B i)) := (HB.out.cell (p := ⟨ab, ao + i, none⟩) (by dsimp only; omega)).trans ((Hb4.out.cell (p := ⟨ab, ao + i, none⟩) hbb).trans hcl)
        have hi1 : (i : Int) < (n : Int) := by omega
        have hi6 : (i : Int) ≤ 600 := by omega
        clear hcl
        cases hBi : B i
        · rw [hBi] at hcr
          by_cases hq : P.q.stage = 6
          · rw [radr_nil hq]
            have hr0 := HI.out.r0 (by omega) (by omega)
            rw [hr0]
            have Hq := Lib.hid hq
            clear hq hap
            have hI1 := (HI.out.beginR Hq.out).read hN1 (by show 0 ≤ 5; omega) 5 (i : Int) (by omega)
            have HI1 := Lib.hid hI1.1
            have hgeo := (HI.out.beginR Hq.out).geo hN1 (by omega)
            have hrok := (HI.out.beginR Hq.out).rok
            have Hgr := Lib.hid (And.intro hgeo hrok)
            clear hI1 hgeo hrok
            by_cases hf : 0 < P.fills
            · have hfe : (P.fills == 0) = false := by simp; omega
              go_wp2_with (first | (go_at_call 15; (with_reducible refine (NewReader_at (twoC pb cb f0 f1 (N : Int) 5) 0 _ (by simp) (by simp) hacc _ HCr.out).mono ?_); rintro e w5 ⟨rb2, rfl, hk5, hrb, hR5⟩; rw [two_b0, two_sz, show (1 : Int) + (11 + 4 * (N : Int)) = 12 + 4 * (N : Int) by omega] at hR5; have hz5 := hk5.size; have H5 := Lib.hid (And.intro hk5 (HG.out.newR hk5 hckl hbs hrb hR5)); clear hk5 hrb hR5) | (go_at_call 16; (with_reducible refine (GRStep nb (twoC pb cb f0 f1 (N : Int) 5).blocks ck bm bw wb wbd cap N rb2 none 0 1 (12 + 4 * (N : Int)) N 5 (List.replicate N 0) P.ms P.s ⟨0, 0, 0, 0, 0, []⟩ i _ H5.out.2 (by omega) (by omega) (by show 0 ≠ 6; decide) HI.out.ok Hgr.out.1 Hgr.out.2 (by omega) (by omega)).mono ?_); rintro e w6 ⟨da6, dc6, rfl, hk6, hG6, hR6, ho6⟩; have hl6 := HG.out.low; have H6 := Lib.hid (And.intro hG6 (below_keeps (below_keeps HB.out H5.out.1 (by simp) hnb) hk6 (by intro x hx; have h0 := (H5.out.2.rd (by show 0 ≠ 6; decide)).low; simp [rown, Value.ownBlock] at hx; omega) hnb)); clear hk6 hG6 hR6 ho6; simp only [rdid, DidV.cells]) | (fail))
              go_roundw
              case rel =>
                have k6 : Keeps [] w6 (w6.alloc (.cells #[.bool false, .int .i64 0, .slice none 0 0, .bool false, .int .i64 0, .bool false, .bool false, .bool false, .int .i64 0] 53)) := (Keeps.refl _ _).alloc _
                refine ⟨i + 1, by omega, by go_num, wb, wbd, cap, rb2, da6, dc6, ASt.rnext N 5 { P with q := ⟨0, 0, 0, 0, 0, []⟩ } i, rfl, ?_, rfl, ?_, rfl, H6.out.1.keep k6 (by simp), HI1.out, below_keeps H6.out.2 k6 (by simp) hnb⟩
                · rw [radr_on (by show 1 ≠ 6; decide)]
                · exact (congrArg (Value.int .i64) hr0).symm
              case measure => simp [intOf]; omega
            · go_wp2_with (first | (go_at_call 15; (with_reducible refine (NewReader_at (twoC pb cb f0 f1 (N : Int) 5) 0 _ (by simp) (by simp) hacc _ HCr.out).mono ?_); rintro e w5 ⟨rb2, rfl, hk5, hrb, hR5⟩; rw [two_b0, two_sz, show (1 : Int) + (11 + 4 * (N : Int)) = 12 + 4 * (N : Int) by omega] at hR5; have hz5 := hk5.size; have H5 := Lib.hid (And.intro hk5 (HG.out.newR hk5 hckl hbs hrb hR5)); clear hk5 hrb hR5) | (go_at_call 16; (with_reducible refine (GRStep nb (twoC pb cb f0 f1 (N : Int) 5).blocks ck bm bw wb wbd cap N rb2 none 0 1 (12 + 4 * (N : Int)) N 5 (List.replicate N 0) P.ms P.s ⟨0, 0, 0, 0, 0, []⟩ i _ H5.out.2 (by omega) (by omega) (by show 0 ≠ 6; decide) HI.out.ok Hgr.out.1 Hgr.out.2 (by omega) (by omega)).mono ?_); rintro e w6 ⟨da6, dc6, rfl, hk6, hG6, hR6, ho6⟩; have hl6 := HG.out.low; have H6 := Lib.hid (And.intro hG6 (below_keeps (below_keeps HB.out H5.out.1 (by simp) hnb) hk6 (by intro x hx; have h0 := (H5.out.2.rd (by show 0 ≠ 6; decide)).low; simp [rown, Value.ownBlock] at hx; omega) hnb)); clear hk6 hG6 hR6 ho6; simp only [rdid, DidV.cells]) | (fail))
              go_roundw
              case rel =>
                have k6 : Keeps [] w6 (w6.alloc (.cells #[.bool false, .int .i64 0, .slice none 0 0, .bool false, .int .i64 0, .bool false, .bool false, .bool false, .int .i64 0] 53)) := (Keeps.refl _ _).alloc _
                refine ⟨i + 1, by omega, by go_num, wb, wbd, cap, rb2, da6, dc6, ASt.rnext N 5 { P with q := ⟨0, 0, 0, 0, 0, []⟩ } i, rfl, ?_, rfl, ?_, rfl, H6.out.1.keep k6 (by simp), HI1.out, below_keeps H6.out.2 k6 (by simp) hnb⟩
                · rw [radr_on (by show 1 ≠ 6; decide)]
                · exact (congrArg (Value.int .i64) hr0).symm
              case measure => simp [intOf]; omega
          · have hq5 : P.q.stage ≤ 5 := by have := HI.out.core.rsl; omega
            obtain ⟨hI1, hdn⟩ := HI.out.read hN1 hq5 5 (i : Int) (by omega)
            have hap1 := hI1.apart
            have hgeo := HI.out.geo hN1 (by omega)
            have Hgr := Lib.hid (And.intro hgeo HI.out.rok)
            have hsm := rdid_same 1 N 5 P.q P.ms (i : Int)
            have hreads : (P.rnext N 5 i).reads = if (rdid 1 N 5 P.q P.ms i none 0).done then 0 else if 0 < (rdid 1 N 5 P.q P.ms i none 0).buffer then (rdid 1 N 5 P.q P.ms i none 0).buffer else P.reads := rfl
            have hfl1 : (P.rnext N 5 i).fills = P.fills := rfl
            rw [hfl1] at hap1
            generalize (rdid 1 N 5 P.q P.ms i none 0).done = bd at *
            generalize (rdid 1 N 5 P.q P.ms i none 0).buffer = bf at *
            have HI1 := Lib.hid hI1
            have Hsm := Lib.hid hsm
            have Hdn := Lib.hid hdn
            have Hrd := Lib.hid hreads
            generalize (P.rnext N 5 i).reads = R at hap1 hreads
            have hrbl := (HG.out.rd hq).low
            have hrown := (HG.out.rd hq).own
            have Hrown := Lib.hid hrown
            rw [radr_on hq]
            clear hap hI1 hsm hdn hgeo hrown hfl1
            cases bd
            · by_cases hbf : 0 < bf
              · have hR : R = bf := by rw [hreads]; simp [hbf]
                subst hR
                clear hreads
                by_cases hf : 0 < P.fills
                · have hfe : (P.fills == R) = false := by simp; exact fun e => hap1 ⟨hf, e⟩
                  go_wp2_with (first | (go_at_call 16; (with_reducible refine (GRStep nb (twoC pb cb f0 f1 (N : Int) 5).blocks ck bm bw wb wbd cap N rb da dc 1 (12 + 4 * (N : Int)) N 5 (List.replicate N 0) P.ms P.s P.q i _ HG.out (by omega) (by omega) hq HI.out.ok Hgr.out.1 Hgr.out.2 (by omega) (by omega)).mono ?_); rintro e w6 ⟨da6, dc6, rfl, hk6, hG6, hR6, ho6⟩; have hl6 := HG.out.low; have H6 := Lib.hid (And.intro hG6 (below_keeps HB.out hk6 (by intro x hx; simp only [List.mem_cons, Option.mem_toList] at hx; rcases hx with a | a | a; (omega); (omega); (exact (Hrown.out x a).1)) hnb)); clear hk6 hG6 hR6 ho6; obtain ⟨s1, s2⟩ := Hsm.out da6 dc6; (generalize rdid 1 N 5 P.q P.ms i da6 dc6 = r at *; obtain ⟨z0, z1, z2, z3, z4, z5, z6, z7, z8, z9, z10⟩ := r; dsimp only at s1 s2; subst s1 s2; simp only [DidV.cells])) | (fail))
                  go_roundw
                  case rel =>
                    refine ⟨i + 1, by omega, by go_num, wb, wbd, cap, rb, da6, dc6, P.rnext N 5 i, rfl, ?_, rfl, ?_, rfl, H6.out.1.keep (l := []) ((Keeps.refl _ _).alloc _) (by simp), HI1.out, below_keeps (l := []) H6.out.2 ((Keeps.refl _ _).alloc _) (by simp) hnb⟩
                    · exact (congrArg Value.pointer (radr_on (fun e => absurd (Hdn.out.mpr e) (by simp)))).symm
                    · rw [Hrd.out]; simp [hbf]
                  case measure => simp [intOf]; omega
                · go_wp2_with (first | (go_at_call 16; (with_reducible refine (GRStep nb (twoC pb cb f0 f1 (N : Int) 5).blocks ck bm bw wb wbd cap N rb da dc 1 (12 + 4 * (N : Int)) N 5 (List.replicate N 0) P.ms P.s P.q i _ HG.out (by omega) (by omega) hq HI.out.ok Hgr.out.1 Hgr.out.2 (by omega) (by omega)).mono ?_); rintro e w6 ⟨da6, dc6, rfl, hk6, hG6, hR6, ho6⟩; have hl6 := HG.out.low; have H6 := Lib.hid (And.intro hG6 (below_keeps HB.out hk6 (by intro x hx; simp only [List.mem_cons, Option.mem_toList] at hx; rcases hx with a | a | a; (omega); (omega); (exact (Hrown.out x a).1)) hnb)); clear hk6 hG6 hR6 ho6; obtain ⟨s1, s2⟩ := Hsm.out da6 dc6; (generalize rdid 1 N 5 P.q P.ms i da6 dc6 = r at *; obtain ⟨z0, z1, z2, z3, z4, z5, z6, z7, z8, z9, z10⟩ := r; dsimp only at s1 s2; subst s1 s2; simp only [DidV.cells])) | (fail))
                  go_roundw
                  case rel =>
                    refine ⟨i + 1, by omega, by go_num, wb, wbd, cap, rb, da6, dc6, P.rnext N 5 i, rfl, ?_, rfl, ?_, rfl, H6.out.1.keep (l := []) ((Keeps.refl _ _).alloc _) (by simp), HI1.out, below_keeps (l := []) H6.out.2 ((Keeps.refl _ _).alloc _) (by simp) hnb⟩
                    · exact (congrArg Value.pointer (radr_on (fun e => absurd (Hdn.out.mpr e) (by simp)))).symm
                    · rw [Hrd.out]; simp [hbf]
                  case measure => simp [intOf]; omega
              · have hR : R = P.reads := by rw [hreads]; simp [hbf]
                subst hR
                clear hreads
                by_cases hf : 0 < P.fills
                · have hfe : (P.fills == P.reads) = false := by simp; exact fun e => hap1 ⟨hf, e⟩
                  go_wp2_with (first | (go_at_call 16; (with_reducible refine (GRStep nb (twoC pb cb f0 f1 (N : Int) 5).blocks ck bm bw wb wbd cap N rb da dc 1 (12 + 4 * (N : Int)) N 5 (List.replicate N 0) P.ms P.s P.q i _ HG.out (by omega) (by omega) hq HI.out.ok Hgr.out.1 Hgr.out.2 (by omega) (by omega)).mono ?_); rintro e w6 ⟨da6, dc6, rfl, hk6, hG6, hR6, ho6⟩; have hl6 := HG.out.low; have H6 := Lib.hid (And.intro hG6 (below_keeps HB.out hk6 (by intro x hx; simp only [List.mem_cons, Option.mem_toList] at hx; rcases hx with a | a | a; (omega); (omega); (exact (Hrown.out x a).1)) hnb)); clear hk6 hG6 hR6 ho6; obtain ⟨s1, s2⟩ := Hsm.out da6 dc6; (generalize rdid 1 N 5 P.q P.ms i da6 dc6 = r at *; obtain ⟨z0, z1, z2, z3, z4, z5, z6, z7, z8, z9, z10⟩ := r; dsimp only at s1 s2; subst s1 s2; simp only [DidV.cells])) | (fail))
                  go_roundw
                  case rel =>
                    refine ⟨i + 1, by omega, by go_num, wb, wbd, cap, rb, da6, dc6, P.rnext N 5 i, rfl, ?_, rfl, ?_, rfl, H6.out.1.keep (l := []) ((Keeps.refl _ _).alloc _) (by simp), HI1.out, below_keeps (l := []) H6.out.2 ((Keeps.refl _ _).alloc _) (by simp) hnb⟩
                    · exact (congrArg Value.pointer (radr_on (fun e => absurd (Hdn.out.mpr e) (by simp)))).symm
                    · rw [Hrd.out]; simp [hbf]
                  case measure => simp [intOf]; omega
                · go_wp2_with (first | (go_at_call 16; (with_reducible refine (GRStep nb (twoC pb cb f0 f1 (N : Int) 5).blocks ck bm bw wb wbd cap N rb da dc 1 (12 + 4 * (N : Int)) N 5 (List.replicate N 0) P.ms P.s P.q i _ HG.out (by omega) (by omega) hq HI.out.ok Hgr.out.1 Hgr.out.2 (by omega) (by omega)).mono ?_); rintro e w6 ⟨da6, dc6, rfl, hk6, hG6, hR6, ho6⟩; have hl6 := HG.out.low; have H6 := Lib.hid (And.intro hG6 (below_keeps HB.out hk6 (by intro x hx; simp only [List.mem_cons, Option.mem_toList] at hx; rcases hx with a | a | a; (omega); (omega); (exact (Hrown.out x a).1)) hnb)); clear hk6 hG6 hR6 ho6; obtain ⟨s1, s2⟩ := Hsm.out da6 dc6; (generalize rdid 1 N 5 P.q P.ms i da6 dc6 = r at *; obtain ⟨z0, z1, z2, z3, z4, z5, z6, z7, z8, z9, z10⟩ := r; dsimp only at s1 s2; subst s1 s2; simp only [DidV.cells])) | (fail))
                  go_roundw
                  case rel =>
                    refine ⟨i + 1, by omega, by go_num, wb, wbd, cap, rb, da6, dc6, P.rnext N 5 i, rfl, ?_, rfl, ?_, rfl, H6.out.1.keep (l := []) ((Keeps.refl _ _).alloc _) (by simp), HI1.out, below_keeps (l := []) H6.out.2 ((Keeps.refl _ _).alloc _) (by simp) hnb⟩
                    · exact (congrArg Value.pointer (radr_on (fun e => absurd (Hdn.out.mpr e) (by simp)))).symm
                    · rw [Hrd.out]; simp [hbf]
                  case measure => simp [intOf]; omega
            · have hR : R = 0 := by rw [hreads]; rfl
              subst hR
              clear hreads
              by_cases hbf : 0 < bf
              · by_cases hf : 0 < P.fills
                · have hfe : (P.fills == 0) = false := by simp; exact fun e => hap1 ⟨hf, e⟩
                  go_wp2_with (first | (go_at_call 16; (with_reducible refine (GRStep nb (twoC pb cb f0 f1 (N : Int) 5).blocks ck bm bw wb wbd cap N rb da dc 1 (12 + 4 * (N : Int)) N 5 (List.replicate N 0) P.ms P.s P.q i _ HG.out (by omega) (by omega) hq HI.out.ok Hgr.out.1 Hgr.out.2 (by omega) (by omega)).mono ?_); rintro e w6 ⟨da6, dc6, rfl, hk6, hG6, hR6, ho6⟩; have hl6 := HG.out.low; have H6 := Lib.hid (And.intro hG6 (below_keeps HB.out hk6 (by intro x hx; simp only [List.mem_cons, Option.mem_toList] at hx; rcases hx with a | a | a; (omega); (omega); (exact (Hrown.out x a).1)) hnb)); clear hk6 hG6 hR6 ho6; obtain ⟨s1, s2⟩ := Hsm.out da6 dc6; (generalize rdid 1 N 5 P.q P.ms i da6 dc6 = r at *; obtain ⟨z0, z1, z2, z3, z4, z5, z6, z7, z8, z9, z10⟩ := r; dsimp only at s1 s2; subst s1 s2; simp only [DidV.cells])) | (fail))
                  go_roundw
                  case rel =>
                    refine ⟨i + 1, by omega, by go_num, wb, wbd, cap, rb, da6, dc6, P.rnext N 5 i, rfl, ?_, rfl, ?_, rfl, H6.out.1.keep (l := []) ((Keeps.refl _ _).alloc _) (by simp), HI1.out, below_keeps (l := []) H6.out.2 ((Keeps.refl _ _).alloc _) (by simp) hnb⟩
                    · exact (congrArg Value.pointer (radr_nil (Hdn.out.mp rfl))).symm
                    · rw [Hrd.out]; simp [hbf]
                  case measure => simp [intOf]; omega
                · go_wp2_with (first | (go_at_call 16; (with_reducible refine (GRStep nb (twoC pb cb f0 f1 (N : Int) 5).blocks ck bm bw wb wbd cap N rb da dc 1 (12 + 4 * (N : Int)) N 5 (List.replicate N 0) P.ms P.s P.q i _ HG.out (by omega) (by omega) hq HI.out.ok Hgr.out.1 Hgr.out.2 (by omega) (by omega)).mono ?_); rintro e w6 ⟨da6, dc6, rfl, hk6, hG6, hR6, ho6⟩; have hl6 := HG.out.low; have H6 := Lib.hid (And.intro hG6 (below_keeps HB.out hk6 (by intro x hx; simp only [List.mem_cons, Option.mem_toList] at hx; rcases hx with a | a | a; (omega); (omega); (exact (Hrown.out x a).1)) hnb)); clear hk6 hG6 hR6 ho6; obtain ⟨s1, s2⟩ := Hsm.out da6 dc6; (generalize rdid 1 N 5 P.q P.ms i da6 dc6 = r at *; obtain ⟨z0, z1, z2, z3, z4, z5, z6, z7, z8, z9, z10⟩ := r; dsimp only at s1 s2; subst s1 s2; simp only [DidV.cells])) | (fail))
                  go_roundw
                  case rel =>
                    refine ⟨i + 1, by omega, by go_num, wb, wbd, cap, rb, da6, dc6, P.rnext N 5 i, rfl, ?_, rfl, ?_, rfl, H6.out.1.keep (l := []) ((Keeps.refl _ _).alloc _) (by simp), HI1.out, below_keeps (l := []) H6.out.2 ((Keeps.refl _ _).alloc _) (by simp) hnb⟩
                    · exact (congrArg Value.pointer (radr_nil (Hdn.out.mp rfl))).symm
                    · rw [Hrd.out]; simp [hbf]
                  case measure => simp [intOf]; omega
              · by_cases hf : 0 < P.fills
                · have hfe : (P.fills == 0) = false := by simp; exact fun e => hap1 ⟨hf, e⟩
                  go_wp2_with (first | (go_at_call 16; (with_reducible refine (GRStep nb (twoC pb cb f0 f1 (N : Int) 5).blocks ck bm bw wb wbd cap N rb da dc 1 (12 + 4 * (N : Int)) N 5 (List.replicate N 0) P.ms P.s P.q i _ HG.out (by omega) (by omega) hq HI.out.ok Hgr.out.1 Hgr.out.2 (by omega) (by omega)).mono ?_); rintro e w6 ⟨da6, dc6, rfl, hk6, hG6, hR6, ho6⟩; have hl6 := HG.out.low; have H6 := Lib.hid (And.intro hG6 (below_keeps HB.out hk6 (by intro x hx; simp only [List.mem_cons, Option.mem_toList] at hx; rcases hx with a | a | a; (omega); (omega); (exact (Hrown.out x a).1)) hnb)); clear hk6 hG6 hR6 ho6; obtain ⟨s1, s2⟩ := Hsm.out da6 dc6; (generalize rdid 1 N 5 P.q P.ms i da6 dc6 = r at *; obtain ⟨z0, z1, z2, z3, z4, z5, z6, z7, z8, z9, z10⟩ := r; dsimp only at s1 s2; subst s1 s2; simp only [DidV.cells])) | (fail))
                  go_roundw
                  case rel =>
                    refine ⟨i + 1, by omega, by go_num, wb, wbd, cap, rb, da6, dc6, P.rnext N 5 i, rfl, ?_, rfl, ?_, rfl, H6.out.1.keep (l := []) ((Keeps.refl _ _).alloc _) (by simp), HI1.out, below_keeps (l := []) H6.out.2 ((Keeps.refl _ _).alloc _) (by simp) hnb⟩
                    · exact (congrArg Value.pointer (radr_nil (Hdn.out.mp rfl))).symm
                    · rw [Hrd.out]; simp [hbf]
                  case measure => simp [intOf]; omega
                · go_wp2_with (first | (go_at_call 16; (with_reducible refine (GRStep nb (twoC pb cb f0 f1 (N : Int) 5).blocks ck bm bw wb wbd cap N rb da dc 1 (12 + 4 * (N : Int)) N 5 (List.replicate N 0) P.ms P.s P.q i _ HG.out (by omega) (by omega) hq HI.out.ok Hgr.out.1 Hgr.out.2 (by omega) (by omega)).mono ?_); rintro e w6 ⟨da6, dc6, rfl, hk6, hG6, hR6, ho6⟩; have hl6 := HG.out.low; have H6 := Lib.hid (And.intro hG6 (below_keeps HB.out hk6 (by intro x hx; simp only [List.mem_cons, Option.mem_toList] at hx; rcases hx with a | a | a; (omega); (omega); (exact (Hrown.out x a).1)) hnb)); clear hk6 hG6 hR6 ho6; obtain ⟨s1, s2⟩ := Hsm.out da6 dc6; (generalize rdid 1 N 5 P.q P.ms i da6 dc6 = r at *; obtain ⟨z0, z1, z2, z3, z4, z5, z6, z7, z8, z9, z10⟩ := r; dsimp only at s1 s2; subst s1 s2; simp only [DidV.cells])) | (fail))
                  go_roundw
                  case rel =>
                    refine ⟨i + 1, by omega, by go_num, wb, wbd, cap, rb, da6, dc6, P.rnext N 5 i, rfl, ?_, rfl, ?_, rfl, H6.out.1.keep (l := []) ((Keeps.refl _ _).alloc _) (by simp), HI1.out, below_keeps (l := []) H6.out.2 ((Keeps.refl _ _).alloc _) (by simp) hnb⟩
                    · exact (congrArg Value.pointer (radr_nil (Hdn.out.mp rfl))).symm
                    · rw [Hrd.out]; simp [hbf]
                  case measure => simp [intOf]; omega
        · rw [hBi] at hcr
          clear hap
          by_cases hs : P.s.stage = 7
          · rw [wadr_nil hs]
            have hf0 := HI.out.f0 (by omega) (by omega)
            have hI0 := HI.out.begin hN1 hs
            have hI1 := (hI0.write rfl hN1 (by show 0 ≤ 6; omega) (i : Int) hi0 (by omega) (by omega) (by omega)).1
            have HI1 := Lib.hid hI1
            have Hgr := Lib.hid (And.intro (hI0.geo hN1 (by omega)) (hI0.wok rfl hN1))
            have hw1 : IntKind.i64.wrap (P.left - 1) = P.left - 1 := wrap_i64s (by omega) (by omega)
            have hl1 : P.left - 1 ≤ 0 := by omega
            have Hs := Lib.hid hs
            clear hs hI0 hI1
            go_upto_region 18 with fail
            go_region_held3 (fun w' => ∀ j, w'.cell? ⟨ck, j, none⟩ = (twoC pb cb f0 f1 (N : Int) 5).cells[j]?) (first | (refine Blk.cell (t := 31) ?_; (repeat' with_reducible (first | exact Hckr.out | exact Hck5.out | apply Blk.drew | apply Blk.alloc)))) (first | (go_at_call 13; (with_reducible refine (NewWriter_at (twoC pb cb f0 f1 (N : Int) 5) 0 N N _ 0 (List.replicate N 0) _ ?_ ?_ hacc _ ?_ (row_of_blk (t := 41) ?_) ?_ ?_ ?_ ?_).mono ?_); (simp); (simp); (exact HCr.out.kept (by (repeat' with_reducible (first | exact Keeps.refl _ _ | assumption | apply Keeps.drew | apply Keeps.drewN | apply Keeps.alloc)))); (repeat' (first | with_reducible (first | assumption | apply Blk.drew | (refine Blk.newAt ?_; first | rfl | (simp; done)) | apply Blk.alloc))); (simp); (omega); (omega); (simp); rintro e w5 ⟨wb2, wbd2, wcap2, dv, rfl, hk5, hwb, hwbd, hne5, hW5, hdv5, hdx5⟩; have hk05 : Keeps [] wr w5 := Keeps.trans (by (repeat' with_reducible (first | exact Keeps.refl _ _ | assumption | apply Keeps.drew | apply Keeps.drewN | apply Keeps.alloc))) hk5; have hz5 := hk05.size; have Hck5 := Lib.hid (Hckr.out.keep hk05 (by simp)); rw [two_b0, two_sz, show (1 : Int) + (11 + 4 * (N : Int)) = 12 + 4 * (N : Int) by omega] at hW5; have H5 := Lib.hid (And.intro hk05 (HG.out.newW (wb' := wb2) (wbd' := wbd2) (cap' := wcap2) (len' := N) (xs' := List.replicate N 0) (s' := ⟨0, 0, 0, 0, false⟩) hk05 hckl hbs (by simp at hwb; omega) (by simp at hwbd; omega) ⟨hW5, ⟨dv, hdv5, hdx5⟩, hne5⟩)); clear hk5 hwb hwbd hW5 hdv5 hdx5 hk05 hne5) | (fail))
            all_goals
              go_wp2_with (first | (go_at_call 14; (with_reducible refine (GWStep nb (twoC pb cb f0 f1 (N : Int) 5).blocks ck bm bw wb2 wbd2 wcap2 N rb da dc 1 (12 + 4 * (N : Int)) N 5 (List.replicate N 0) P.ms ⟨0, 0, 0, 0, false⟩ P.q i {} _ (H5.out.2.keep (l := []) (by (repeat' with_reducible (first | exact Keeps.refl _ _ | assumption | apply Keeps.drew | apply Keeps.drewN | apply Keeps.alloc))) (by simp)) (by show 0 ≠ 7; decide) HI.out.ok Hgr.out.1 Hgr.out.2 (by omega) (by omega) rfl).mono ?_); rintro e w6 ⟨rfl, hk6, hG6⟩; have hl6 := HG.out.low; have hl7 := (H5.out.2.wr (by show 0 ≠ 7; decide)).low; have H6 := Lib.hid (And.intro hG6 (below_keeps (below_keeps (below_keeps HB.out H5.out.1 (by simp) hnb) (l := []) (by (repeat' with_reducible (first | exact Keeps.refl _ _ | assumption | apply Keeps.drew | apply Keeps.drewN | apply Keeps.alloc))) (by simp) hnb) hk6 (by simp; omega) hnb)); clear hk6 hG6; simp only [DidV.cells]) | (fail))
              go_roundw
              case rel =>
                have k6 : Keeps [] w6 (w6.alloc (.cells #[.bool false, .int .i64 0, .slice none 0 0, .bool false, .int .i64 0, .bool false, .bool false, .bool false, .int .i64 0] 53)) := (Keeps.refl _ _).alloc _
                have e1 : afill (N : Int) {} P.fills P.left = (0, P.left - 1) := by simp [afill]; omega
                refine ⟨i + 1, by omega, by go_num, wb2, wbd2, wcap2, rb, da, dc, ASt.wnext N N { P with s := ⟨0, 0, 0, 0, false⟩ } i, (congrArg Value.pointer (wadr_on (by show 1 ≠ 7; decide))).symm, rfl, congrArg (Value.int .i64) (congrArg Prod.fst e1).symm, rfl, congrArg (Value.int .i64) (congrArg Prod.snd e1).symm, H6.out.1.keep k6 (by simp), HI1.out, below_keeps H6.out.2 k6 (by simp) hnb⟩
              case measure => simp [intOf]; omega
          · have hs6 : P.s.stage ≤ 6 := by have := HI.out.core.stl; omega
            obtain ⟨hI1, hdn⟩ := HI.out.write rfl hN1 hs6 (i : Int) hi0 (by omega) (by omega) (by omega)
            have hap1 := hI1.apart
            have hll := HI.out.leftle hN1
            have hw1 : IntKind.i64.wrap (P.left - 1) = P.left - 1 := wrap_i64s (by omega) (by omega)
            have Hgr := Lib.hid (And.intro (HI.out.geo hN1 (by omega)) (HI.out.wok rfl hN1))
            have hwl := (HG.out.wr hs).low
            have HI1 := Lib.hid hI1
            have hfd : (P.wnext N N i).fills = (afill N (P.wr N N i).1 P.fills P.left).1 := rfl
            have hld : (P.wnext N N i).left = (afill N (P.wr N N i).1 P.fills P.left).2 := rfl
            have hrd : (P.wnext N N i).reads = P.reads := rfl
            have hsd : (P.wnext N N i).s = (P.wr N N i).2.1 := rfl
            rw [wadr_on hs]
            rw [hfd, hrd] at hap1
            obtain ⟨⟨z0, z1, z2, z3, z4, z5, z6, z7, z8, z9, z10⟩, hd⟩ : ∃ d, (P.wr N N i).1 = d := ⟨_, rfl⟩
            rw [hd] at hap1 hfd hld hdn
            dsimp only at hdn
            have hd2 : (wstep 1 (12 + 4 * (N : Int)) N N (List.replicate N 0) P.s P.ms i).1 = ⟨z0, z1, z2, z3, z4, z5, z6, z7, z8, z9, z10⟩ := hd
            have Hd := Lib.hid hd2
            clear hd2
            have Hfl := Lib.hid (And.intro hfd (And.intro hld (And.intro hsd hdn)))
            clear hI1 hdn hd hfd hld hrd hsd
            by_cases hb : 0 < z10
            · have e1 : afill (N : Int) ⟨z0, z1, z2, z3, z4, z5, z6, z7, z8, z9, z10⟩ P.fills P.left = (z10, (N : Int) + 2 - 1) := by simp [afill, hb]; omega
              rw [e1] at hap1
              have E1 := Lib.hid e1
              have hfe : (z10 == P.reads) = false := by simp; exact fun e => hap1 ⟨hb, e⟩
              clear hap1 e1
              cases z0
              · (go_wp2_with (first | (go_at_call 14; (with_reducible refine (GWStep nb (twoC pb cb f0 f1 (N : Int) 5).blocks ck bm bw wb wbd cap N rb da dc 1 (12 + 4 * (N : Int)) N 5 (List.replicate N 0) P.ms P.s P.q i ⟨false, z1, z2, z3, z4, z5, z6, z7, z8, z9, z10⟩ _ HG.out hs HI.out.ok Hgr.out.1 Hgr.out.2 (by omega) (by omega) Hd.out).mono ?_); rintro e w6 ⟨rfl, hk6, hG6⟩; have hl6 := HG.out.low; have H6 := Lib.hid (And.intro hG6 (below_keeps HB.out hk6 (by simp; omega) hnb)); clear hk6 hG6; simp only [DidV.cells]) | (fail)); go_roundw; (case rel => (have k6 : Keeps [] w6 (w6.alloc (.cells #[.bool false, .int .i64 z1, .slice z2 z3 z4, .bool z5, .int .i64 z6, .bool z7, .bool z8, .bool z9, .int .i64 z10] 53)) := (Keeps.refl _ _).alloc _); refine ⟨i + 1, by omega, by go_num, wb, wbd, cap, rb, da, dc, P.wnext N N i, (congrArg Value.pointer (wadr_on (by rw [Hfl.out.2.2.1]; exact fun e => absurd (Hfl.out.2.2.2.mpr e) (by simp)))).symm, rfl, congrArg (Value.int .i64) ((Hfl.out.1.trans (congrArg Prod.fst E1.out)).symm), rfl, congrArg (Value.int .i64) ((Hfl.out.2.1.trans (congrArg Prod.snd E1.out)).symm), H6.out.1.keep k6 (by simp), HI1.out, below_keeps H6.out.2 k6 (by simp) hnb⟩); (case measure => simp [intOf]; omega))
              · (go_wp2_with (first | (go_at_call 14; (with_reducible refine (GWStep nb (twoC pb cb f0 f1 (N : Int) 5).blocks ck bm bw wb wbd cap N rb da dc 1 (12 + 4 * (N : Int)) N 5 (List.replicate N 0) P.ms P.s P.q i ⟨true, z1, z2, z3, z4, z5, z6, z7, z8, z9, z10⟩ _ HG.out hs HI.out.ok Hgr.out.1 Hgr.out.2 (by omega) (by omega) Hd.out).mono ?_); rintro e w6 ⟨rfl, hk6, hG6⟩; have hl6 := HG.out.low; have H6 := Lib.hid (And.intro hG6 (below_keeps HB.out hk6 (by simp; omega) hnb)); clear hk6 hG6; simp only [DidV.cells]) | (fail)); go_roundw; (case rel => (have k6 : Keeps [] w6 (w6.alloc (.cells #[.bool true, .int .i64 z1, .slice z2 z3 z4, .bool z5, .int .i64 z6, .bool z7, .bool z8, .bool z9, .int .i64 z10] 53)) := (Keeps.refl _ _).alloc _); refine ⟨i + 1, by omega, by go_num, wb, wbd, cap, rb, da, dc, P.wnext N N i, (congrArg Value.pointer (wadr_nil (by rw [Hfl.out.2.2.1]; exact Hfl.out.2.2.2.mp rfl))).symm, rfl, congrArg (Value.int .i64) ((Hfl.out.1.trans (congrArg Prod.fst E1.out)).symm), rfl, congrArg (Value.int .i64) ((Hfl.out.2.1.trans (congrArg Prod.snd E1.out)).symm), H6.out.1.keep k6 (by simp), HI1.out, below_keeps H6.out.2 k6 (by simp) hnb⟩); (case measure => simp [intOf]; omega))
            · by_cases hl : P.left - 1 ≤ 0
              · have e1 : afill (N : Int) ⟨z0, z1, z2, z3, z4, z5, z6, z7, z8, z9, z10⟩ P.fills P.left = (0, P.left - 1) := by simp [afill, hb]; omega
                have E1 := Lib.hid e1
                clear hap1 e1
                cases z0
                · (go_wp2_with (first | (go_at_call 14; (with_reducible refine (GWStep nb (twoC pb cb f0 f1 (N : Int) 5).blocks ck bm bw wb wbd cap N rb da dc 1 (12 + 4 * (N : Int)) N 5 (List.replicate N 0) P.ms P.s P.q i ⟨false, z1, z2, z3, z4, z5, z6, z7, z8, z9, z10⟩ _ HG.out hs HI.out.ok Hgr.out.1 Hgr.out.2 (by omega) (by omega) Hd.out).mono ?_); rintro e w6 ⟨rfl, hk6, hG6⟩; have hl6 := HG.out.low; have H6 := Lib.hid (And.intro hG6 (below_keeps HB.out hk6 (by simp; omega) hnb)); clear hk6 hG6; simp only [DidV.cells]) | (fail)); go_roundw; (case rel => (have k6 : Keeps [] w6 (w6.alloc (.cells #[.bool false, .int .i64 z1, .slice z2 z3 z4, .bool z5, .int .i64 z6, .bool z7, .bool z8, .bool z9, .int .i64 z10] 53)) := (Keeps.refl _ _).alloc _); refine ⟨i + 1, by omega, by go_num, wb, wbd, cap, rb, da, dc, P.wnext N N i, (congrArg Value.pointer (wadr_on (by rw [Hfl.out.2.2.1]; exact fun e => absurd (Hfl.out.2.2.2.mpr e) (by simp)))).symm, rfl, congrArg (Value.int .i64) ((Hfl.out.1.trans (congrArg Prod.fst E1.out)).symm), rfl, congrArg (Value.int .i64) ((Hfl.out.2.1.trans (congrArg Prod.snd E1.out)).symm), H6.out.1.keep k6 (by simp), HI1.out, below_keeps H6.out.2 k6 (by simp) hnb⟩); (case measure => simp [intOf]; omega))
                · (go_wp2_with (first | (go_at_call 14; (with_reducible refine (GWStep nb (twoC pb cb f0 f1 (N : Int) 5).blocks ck bm bw wb wbd cap N rb da dc 1 (12 + 4 * (N : Int)) N 5 (List.replicate N 0) P.ms P.s P.q i ⟨true, z1, z2, z3, z4, z5, z6, z7, z8, z9, z10⟩ _ HG.out hs HI.out.ok Hgr.out.1 Hgr.out.2 (by omega) (by omega) Hd.out).mono ?_); rintro e w6 ⟨rfl, hk6, hG6⟩; have hl6 := HG.out.low; have H6 := Lib.hid (And.intro hG6 (below_keeps HB.out hk6 (by simp; omega) hnb)); clear hk6 hG6; simp only [DidV.cells]) | (fail)); go_roundw; (case rel => (have k6 : Keeps [] w6 (w6.alloc (.cells #[.bool true, .int .i64 z1, .slice z2 z3 z4, .bool z5, .int .i64 z6, .bool z7, .bool z8, .bool z9, .int .i64 z10] 53)) := (Keeps.refl _ _).alloc _); refine ⟨i + 1, by omega, by go_num, wb, wbd, cap, rb, da, dc, P.wnext N N i, (congrArg Value.pointer (wadr_nil (by rw [Hfl.out.2.2.1]; exact Hfl.out.2.2.2.mp rfl))).symm, rfl, congrArg (Value.int .i64) ((Hfl.out.1.trans (congrArg Prod.fst E1.out)).symm), rfl, congrArg (Value.int .i64) ((Hfl.out.2.1.trans (congrArg Prod.snd E1.out)).symm), H6.out.1.keep k6 (by simp), HI1.out, below_keeps H6.out.2 k6 (by simp) hnb⟩); (case measure => simp [intOf]; omega))
              · have e1 : afill (N : Int) ⟨z0, z1, z2, z3, z4, z5, z6, z7, z8, z9, z10⟩ P.fills P.left = (P.fills, P.left - 1) := by simp [afill, hb]; omega
                rw [e1] at hap1
                have E1 := Lib.hid e1
                by_cases hf : 0 < P.fills
                · have hfe : (P.fills == P.reads) = false := by simp; exact fun e => hap1 ⟨hf, e⟩
                  clear hap1 e1
                  cases z0
                  · (go_wp2_with (first | (go_at_call 14; (with_reducible refine (GWStep nb (twoC pb cb f0 f1 (N : Int) 5).blocks ck bm bw wb wbd cap N rb da dc 1 (12 + 4 * (N : Int)) N 5 (List.replicate N 0) P.ms P.s P.q i ⟨false, z1, z2, z3, z4, z5, z6, z7, z8, z9, z10⟩ _ HG.out hs HI.out.ok Hgr.out.1 Hgr.out.2 (by omega) (by omega) Hd.out).mono ?_); rintro e w6 ⟨rfl, hk6, hG6⟩; have hl6 := HG.out.low; have H6 := Lib.hid (And.intro hG6 (below_keeps HB.out hk6 (by simp; omega) hnb)); clear hk6 hG6; simp only [DidV.cells]) | (fail)); go_roundw; (case rel => (have k6 : Keeps [] w6 (w6.alloc (.cells #[.bool false, .int .i64 z1, .slice z2 z3 z4, .bool z5, .int .i64 z6, .bool z7, .bool z8, .bool z9, .int .i64 z10] 53)) := (Keeps.refl _ _).alloc _); refine ⟨i + 1, by omega, by go_num, wb, wbd, cap, rb, da, dc, P.wnext N N i, (congrArg Value.pointer (wadr_on (by rw [Hfl.out.2.2.1]; exact fun e => absurd (Hfl.out.2.2.2.mpr e) (by simp)))).symm, rfl, congrArg (Value.int .i64) ((Hfl.out.1.trans (congrArg Prod.fst E1.out)).symm), rfl, congrArg (Value.int .i64) ((Hfl.out.2.1.trans (congrArg Prod.snd E1.out)).symm), H6.out.1.keep k6 (by simp), HI1.out, below_keeps H6.out.2 k6 (by simp) hnb⟩); (case measure => simp [intOf]; omega))
                  · (go_wp2_with (first | (go_at_call 14; (with_reducible refine (GWStep nb (twoC pb cb f0 f1 (N : Int) 5).blocks ck bm bw wb wbd cap N rb da dc 1 (12 + 4 * (N : Int)) N 5 (List.replicate N 0) P.ms P.s P.q i ⟨true, z1, z2, z3, z4, z5, z6, z7, z8, z9, z10⟩ _ HG.out hs HI.out.ok Hgr.out.1 Hgr.out.2 (by omega) (by omega) Hd.out).mono ?_); rintro e w6 ⟨rfl, hk6, hG6⟩; have hl6 := HG.out.low; have H6 := Lib.hid (And.intro hG6 (below_keeps HB.out hk6 (by simp; omega) hnb)); clear hk6 hG6; simp only [DidV.cells]) | (fail)); go_roundw; (case rel => (have k6 : Keeps [] w6 (w6.alloc (.cells #[.bool true, .int .i64 z1, .slice z2 z3 z4, .bool z5, .int .i64 z6, .bool z7, .bool z8, .bool z9, .int .i64 z10] 53)) := (Keeps.refl _ _).alloc _); refine ⟨i + 1, by omega, by go_num, wb, wbd, cap, rb, da, dc, P.wnext N N i, (congrArg Value.pointer (wadr_nil (by rw [Hfl.out.2.2.1]; exact Hfl.out.2.2.2.mp rfl))).symm, rfl, congrArg (Value.int .i64) ((Hfl.out.1.trans (congrArg Prod.fst E1.out)).symm), rfl, congrArg (Value.int .i64) ((Hfl.out.2.1.trans (congrArg Prod.snd E1.out)).symm), H6.out.1.keep k6 (by simp), HI1.out, below_keeps H6.out.2 k6 (by simp) hnb⟩); (case measure => simp [intOf]; omega))
                · clear hap1 e1
                  cases z0
                  · (go_wp2_with (first | (go_at_call 14; (with_reducible refine (GWStep nb (twoC pb cb f0 f1 (N : Int) 5).blocks ck bm bw wb wbd cap N rb da dc 1 (12 + 4 * (N : Int)) N 5 (List.replicate N 0) P.ms P.s P.q i ⟨false, z1, z2, z3, z4, z5, z6, z7, z8, z9, z10⟩ _ HG.out hs HI.out.ok Hgr.out.1 Hgr.out.2 (by omega) (by omega) Hd.out).mono ?_); rintro e w6 ⟨rfl, hk6, hG6⟩; have hl6 := HG.out.low; have H6 := Lib.hid (And.intro hG6 (below_keeps HB.out hk6 (by simp; omega) hnb)); clear hk6 hG6; simp only [DidV.cells]) | (fail)); go_roundw; (case rel => (have k6 : Keeps [] w6 (w6.alloc (.cells #[.bool false, .int .i64 z1, .slice z2 z3 z4, .bool z5, .int .i64 z6, .bool z7, .bool z8, .bool z9, .int .i64 z10] 53)) := (Keeps.refl _ _).alloc _); refine ⟨i + 1, by omega, by go_num, wb, wbd, cap, rb, da, dc, P.wnext N N i, (congrArg Value.pointer (wadr_on (by rw [Hfl.out.2.2.1]; exact fun e => absurd (Hfl.out.2.2.2.mpr e) (by simp)))).symm, rfl, congrArg (Value.int .i64) ((Hfl.out.1.trans (congrArg Prod.fst E1.out)).symm), rfl, congrArg (Value.int .i64) ((Hfl.out.2.1.trans (congrArg Prod.snd E1.out)).symm), H6.out.1.keep k6 (by simp), HI1.out, below_keeps H6.out.2 k6 (by simp) hnb⟩); (case measure => simp [intOf]; omega))
                  · (go_wp2_with (first | (go_at_call 14; (with_reducible refine (GWStep nb (twoC pb cb f0 f1 (N : Int) 5).blocks ck bm bw wb wbd cap N rb da dc 1 (12 + 4 * (N : Int)) N 5 (List.replicate N 0) P.ms P.s P.q i ⟨true, z1, z2, z3, z4, z5, z6, z7, z8, z9, z10⟩ _ HG.out hs HI.out.ok Hgr.out.1 Hgr.out.2 (by omega) (by omega) Hd.out).mono ?_); rintro e w6 ⟨rfl, hk6, hG6⟩; have hl6 := HG.out.low; have H6 := Lib.hid (And.intro hG6 (below_keeps HB.out hk6 (by simp; omega) hnb)); clear hk6 hG6; simp only [DidV.cells]) | (fail)); go_roundw; (case rel => (have k6 : Keeps [] w6 (w6.alloc (.cells #[.bool true, .int .i64 z1, .slice z2 z3 z4, .bool z5, .int .i64 z6, .bool z7, .bool z8, .bool z9, .int .i64 z10] 53)) := (Keeps.refl _ _).alloc _); refine ⟨i + 1, by omega, by go_num, wb, wbd, cap, rb, da, dc, P.wnext N N i, (congrArg Value.pointer (wadr_nil (by rw [Hfl.out.2.2.1]; exact Hfl.out.2.2.2.mp rfl))).symm, rfl, congrArg (Value.int .i64) ((Hfl.out.1.trans (congrArg Prod.fst E1.out)).symm), rfl, congrArg (Value.int .i64) ((Hfl.out.2.1.trans (congrArg Prod.snd E1.out)).symm), H6.out.1.keep k6 (by simp), HI1.out, below_keeps H6.out.2 k6 (by simp) hnb⟩); (case measure => simp [intOf]; omega))
      · obtain rfl : i = n := by omega
        have hi1 : ¬ (i : Int) < (i : Int) := by omega
        go_wp2_with fail
        go_ret
        exact ⟨rfl, Hb4.out.trans (HB.out.mono hwn)⟩

end Go.Proofs.Ytpkjffiajidfcaa

/- A write alone: what it leaves (plain). -/
namespace Go.Proofs.Ytpkjffiajidfcaa

/-- Behind k steps of a write of L words that began with an empty memory. -/
structure WI (L : Nat) (xs : List Int) (s : Int) (k : Nat) (q : WSt) (ms : List Int) : Prop where
  len : (ms.length : Int) = 77
  ok : MsOk ms
  st3 : k ≤ 3 → q.stage = k ∧ q.i = 0
  st4 : 4 ≤ k → k ≤ 3 + L → q.stage = 4 ∧ q.i = (k : Int) - 4
  st5 : k = 4 + L → q.stage = 5
  st6 : k = 5 + L → q.stage = 6
  st7 : k = 6 + L → q.stage = 7
  bp : Bit q.pair
  bi : Bit q.index
  i0 : 0 ≤ q.i
  p1 : 1 ≤ k → q.pair = 1
  i1 : 2 ≤ k → q.index = 1
  rdg : rd ms 76 = 0
  sl : rd ms 3 = if 5 + L ≤ k then 1 else 0
  lat : rd ms 1 = if 6 + L ≤ k then 1 else 0
  b0 : 3 ≤ k → rd ms 58 = L
  b1 : 4 ≤ k → rd ms 59 = s
  bw : ∀ j : Nat, j < L → j + 5 ≤ k → rd ms (60 + j) = rd xs j

theorem WI.start (L : Nat) (xs : List Int) (s : Int) : WI L xs s 0 ⟨0, 0, 0, 0, false⟩ (List.replicate 77 0) := by
  have z : ∀ i, rd (List.replicate 77 0) i = 0 := rd_zero 77
  exact ⟨by simp, MsOk.zero 77, fun _ => ⟨rfl, rfl⟩, by omega, by omega, by omega, by omega, .inl rfl, .inl rfl, Int.le_refl _, by omega, by omega, z 76, by rw [z, if_neg (by omega)], by rw [z, if_neg (by omega)], by omega, by omega, by omega⟩

theorem WI.geo {L : Nat} {xs : List Int} {s : Int} {k : Nat} {q : WSt} {ms : List Int} (h : WI L xs s k q ms) : Geo 1 76 16 ms := by
  have := h.len
  exact ⟨by omega, by omega, by omega, by omega, by omega, by omega⟩

theorem WI.wok {L : Nat} {xs : List Int} {s : Int} {k : Nat} {q : WSt} {ms : List Int} (h : WI L xs s k q ms) (hL : 1 ≤ L) (hL' : L ≤ 16) (hk : k ≤ 6 + L) : WOk 16 L q := by
  have a := h.bp
  have b := h.bi
  unfold Bit at a b
  refine ⟨by omega, by omega, by omega, by omega, h.i0, fun c => ?_, by omega⟩
  by_cases c1 : k ≤ 3
  · have := h.st3 c1; omega
  by_cases c2 : k ≤ 3 + L
  · have := h.st4 (by omega) c2; omega
  by_cases c3 : k = 4 + L
  · have := h.st5 c3; omega
  by_cases c4 : k = 5 + L
  · have := h.st6 c4; omega
  · have := h.st7 (by omega); omega

/-- One step. -/
theorem WI.step {L : Nat} {xs : List Int} {s : Int} {k : Nat} {q : WSt} {ms : List Int} (h : WI L xs s k q ms) (hL : 1 ≤ L) (hL' : L ≤ 16) (hk : k < 6 + L) (hs : 0 ≤ s) (hs' : s ≤ 4294967295) (hx : ∀ j, 0 ≤ rd xs j ∧ rd xs j ≤ 4294967295) :
    WI L xs s (k + 1) (wstep 1 76 16 L xs q ms s).2.1 (wstep 1 76 16 L xs q ms s).2.2 ∧ (wstep 1 76 16 L xs q ms s).1.stamped = decide (k = 3) := by
  obtain ⟨st, p, i, ix, mk⟩ := q
  obtain ⟨len, ok, st3, st4, st5, st6, st7, bp, bi, i0, p1, i1, rdg, sl, lat, b0, b1, bw⟩ := h
  dsimp only at st3 st4 st5 st6 st7 bp bi i0 p1 i1
  have rs : ∀ (a : Nat) (v : Int) (b : Nat), b < 77 → rd (ms.set a v) b = if a = b then v else rd ms b := fun a v b hb => by
    rw [rd_set]
    by_cases c : a = b
    · rw [if_pos c, if_pos ⟨c, by omega⟩]
    · rw [if_neg c, if_neg (fun e => c e.1)]
  by_cases k0 : k = 0
  · subst k0
    obtain ⟨rfl, rfl⟩ := st3 (by omega)
    have e : rd ms (76 : Int).toNat = 0 := rdg
    refine ⟨⟨len, ok, fun _ => ⟨rfl, rfl⟩, by omega, by omega, by omega, by omega, ?_, bi, i0, fun _ => ?_, by omega, rdg, ?_, ?_, by omega, by omega, by omega⟩, rfl⟩
    · show Bit (1 - rd ms (76 : Int).toNat % 2); rw [e]; exact .inr rfl
    · show 1 - rd ms (76 : Int).toNat % 2 = 1; rw [e]; rfl
    · show rd ms 3 = _; rw [sl, if_neg (by omega), if_neg (by omega)]
    · show rd ms 1 = _; rw [lat, if_neg (by omega), if_neg (by omega)]
  by_cases k1 : k = 1
  · subst k1
    obtain ⟨rfl, rfl⟩ := st3 (by omega)
    obtain rfl := p1 (by omega)
    have e : rd ms ((1 : Int) + 1 + 1).toNat = 0 := by rw [if_neg (by omega)] at sl; exact sl
    refine ⟨⟨len, ok, fun _ => ⟨rfl, rfl⟩, by omega, by omega, by omega, by omega, bp, ?_, i0, fun _ => rfl, fun _ => ?_, rdg, ?_, ?_, by omega, by omega, by omega⟩, rfl⟩
    · show Bit (1 - rd ms ((1 : Int) + 1 + 1).toNat % 2); rw [e]; exact .inr rfl
    · show 1 - rd ms ((1 : Int) + 1 + 1).toNat % 2 = 1; rw [e]; rfl
    · show rd ms 3 = _; rw [sl, if_neg (by omega), if_neg (by omega)]
    · show rd ms 1 = _; rw [lat, if_neg (by omega), if_neg (by omega)]
  obtain rfl := p1 (by omega)
  obtain rfl := i1 (by omega)
  by_cases k2 : k = 2
  · subst k2
    obtain ⟨rfl, rfl⟩ := st3 (by omega)
    refine ⟨⟨by simpa [wstep] using len, ok.set (by omega) (by omega) _, fun _ => ⟨rfl, rfl⟩, by omega, by omega, by omega, by omega, bp, bi, i0, fun _ => rfl, fun _ => rfl, ?_, ?_, ?_, fun _ => ?_, by omega, by omega⟩, rfl⟩
    · show rd (ms.set 58 (L : Int)) 76 = 0; rw [rs _ _ _ (by omega), if_neg (by omega)]; exact rdg
    · show rd (ms.set 58 (L : Int)) 3 = _; rw [rs _ _ _ (by omega), if_neg (by omega), sl, if_neg (by omega), if_neg (by omega)]
    · show rd (ms.set 58 (L : Int)) 1 = _; rw [rs _ _ _ (by omega), if_neg (by omega), lat, if_neg (by omega), if_neg (by omega)]
    · show rd (ms.set 58 (L : Int)) 58 = _; rw [rs _ _ _ (by omega), if_pos rfl]
  by_cases k3 : k = 3
  · subst k3
    obtain ⟨rfl, rfl⟩ := st3 (by omega)
    refine ⟨⟨by simpa [wstep] using len, ok.set hs hs' _, by omega, fun _ _ => ⟨rfl, rfl⟩, by omega, by omega, by omega, bp, bi, i0, fun _ => rfl, fun _ => rfl, ?_, ?_, ?_, fun _ => ?_, fun _ => ?_, by omega⟩, rfl⟩
    · show rd (ms.set 59 s) 76 = 0; rw [rs _ _ _ (by omega), if_neg (by omega)]; exact rdg
    · show rd (ms.set 59 s) 3 = _; rw [rs _ _ _ (by omega), if_neg (by omega), sl, if_neg (by omega), if_neg (by omega)]
    · show rd (ms.set 59 s) 1 = _; rw [rs _ _ _ (by omega), if_neg (by omega), lat, if_neg (by omega), if_neg (by omega)]
    · show rd (ms.set 59 s) 58 = _; rw [rs _ _ _ (by omega), if_neg (by omega)]; exact b0 (by omega)
    · show rd (ms.set 59 s) 59 = _; rw [rs _ _ _ (by omega), if_pos rfl]
  have hd : (decide (k = 3)) = false := by simpa using k3
  by_cases k4 : k ≤ 3 + L
  · obtain ⟨rfl, rfl⟩ := st4 (by omega) k4
    obtain ⟨m, rfl⟩ : ∃ m : Nat, k = m + 4 := ⟨k - 4, by omega⟩
    have em : ((m + 4 : Nat) : Int) - 4 = m := by omega
    rw [em] at *
    have ea : (bufAt 1 16 1 1 + 2 + (m : Int)).toNat = 60 + m := by show ((58 : Int) + 2 + m).toNat = _; omega
    have e : wstep 1 76 16 L xs ⟨4, 1, 1, m, mk⟩ ms s = ({}, ⟨if (m : Int) + 1 < L then 4 else 5, 1, 1, m + 1, mk⟩, ms.set (60 + m) (rd xs m)) := by
      simp only [wstep, ea]
      rfl
    rw [e]
    refine ⟨⟨by simpa using len, ok.set (hx m).1 (hx m).2 _, by omega, fun _ _ => ⟨if_pos (by omega), by show (m : Int) + 1 = _; omega⟩, fun _ => if_neg (by omega), by omega, by omega, bp, bi, by show (0 : Int) ≤ m + 1; omega, fun _ => rfl, fun _ => rfl, ?_, ?_, ?_, fun _ => ?_, fun _ => ?_, fun j hj hjk => ?_⟩, by rw [hd]⟩
    · rw [rs _ _ _ (by omega), if_neg (by omega)]; exact rdg
    · rw [rs _ _ _ (by omega), if_neg (by omega), sl, if_neg (by omega), if_neg (by omega)]
    · rw [rs _ _ _ (by omega), if_neg (by omega), lat, if_neg (by omega), if_neg (by omega)]
    · rw [rs _ _ _ (by omega), if_neg (by omega)]; exact b0 (by omega)
    · rw [rs _ _ _ (by omega), if_neg (by omega)]; exact b1 (by omega)
    · rw [rs _ _ _ (by omega)]
      by_cases c : m = j
      · rw [if_pos (by omega), c]
      · rw [if_neg (by omega)]; exact bw j hj (by omega)
  by_cases k5 : k = 4 + L
  · obtain rfl := st5 k5
    have e : wstep 1 76 16 L xs ⟨5, 1, 1, ix, mk⟩ ms s = ({ mark := rd ms 1 % 2 == 1 }, ⟨6, 1, 1, ix, rd ms 1 % 2 == 1⟩, ms.set 3 1) := rfl
    rw [e]
    refine ⟨⟨by simpa using len, ok.set (by omega) (by omega) _, by omega, by omega, by omega, fun _ => rfl, by omega, bp, bi, i0, fun _ => rfl, fun _ => rfl, ?_, ?_, ?_, fun _ => ?_, fun _ => ?_, fun j hj hjk => ?_⟩, by rw [hd]⟩
    · rw [rs _ _ _ (by omega), if_neg (by omega)]; exact rdg
    · rw [rs _ _ _ (by omega), if_pos rfl, if_pos (by omega)]
    · rw [rs _ _ _ (by omega), if_neg (by omega), lat, if_neg (by omega), if_neg (by omega)]
    · rw [rs _ _ _ (by omega), if_neg (by omega)]; exact b0 (by omega)
    · rw [rs _ _ _ (by omega), if_neg (by omega)]; exact b1 (by omega)
    · rw [rs _ _ _ (by omega), if_neg (by omega)]; exact bw j hj (by omega)
  · obtain rfl := st6 (by omega)
    have e : wstep 1 76 16 L xs ⟨6, 1, 1, ix, mk⟩ ms s = ({ done := true, mark := !mk }, ⟨7, 1, 1, ix, mk⟩, ms.set 1 1) := rfl
    rw [e]
    refine ⟨⟨by simpa using len, ok.set (by omega) (by omega) _, by omega, by omega, by omega, by omega, fun _ => rfl, bp, bi, i0, fun _ => rfl, fun _ => rfl, ?_, ?_, ?_, fun _ => ?_, fun _ => ?_, fun j hj hjk => ?_⟩, by rw [hd]⟩
    · rw [rs _ _ _ (by omega), if_neg (by omega)]; exact rdg
    · rw [rs _ _ _ (by omega), if_neg (by omega), sl, if_pos (by omega), if_pos (by omega)]
    · rw [rs _ _ _ (by omega), if_pos rfl, if_pos (by omega)]
    · rw [rs _ _ _ (by omega), if_neg (by omega)]; exact b0 (by omega)
    · rw [rs _ _ _ (by omega), if_neg (by omega)]; exact b1 (by omega)
    · rw [rs _ _ _ (by omega), if_neg (by omega)]; exact bw j hj (by omega)

/-- What a read would find behind it. -/
theorem WI.found {L : Nat} {xs : List Int} {s : Int} {q : WSt} {ms : List Int} (h : WI L xs s (6 + L) q ms) (hL : 1 ≤ L) (hL' : L ≤ 16) (hx : xs.length = L) :
    sP ms = 1 ∧ sI ms = 1 ∧ sL 16 ms = L ∧ sF 16 ms = L ∧ sX 16 ms L = xs ∧ rd ms (bufAt 1 16 (sP ms) (sI ms) + 1).toNat = s ∧ Like 16 ms ms := by
  have a : sP ms = 1 := by unfold sP; rw [h.lat, if_pos (by omega)]; rfl
  have b : sI ms = 1 := by
    unfold sI; rw [a]
    have := h.sl
    rw [if_pos (by omega)] at this
    show rd ms 3 % 2 = 1
    rw [this]; rfl
  have c : sL 16 ms = L := by unfold sL; rw [a, b]; exact h.b0 (by omega)
  refine ⟨a, b, c, by unfold sF; rw [c, if_pos (by omega)], ?_, by rw [a, b]; exact h.b1 (by omega), ⟨by have := h.len; omega, fun _ _ => rfl, h.ok⟩⟩
  apply List.ext_getElem
  · rw [sX_len, hx]
  · intro j h1 h2
    rw [sX_len] at h1
    have e := h.bw j h1 (by omega)
    simp only [sX, a, b, List.getElem_map, List.getElem_range]
    have e2 : (bufAt 1 16 1 1 + 2 + (j : Int)).toNat = 60 + j := by show ((58 : Int) + 2 + j).toNat = _; omega
    rw [e2, e]
    simp [rd, h2]


end Go.Proofs.Ytpkjffiajidfcaa

/- FourAlone of the law, walked. -/
namespace Go.Proofs.Ytpkjffiajidfcaa
open Go.RowKit

/-- The last step of a read. -/
theorem RI.ends {W : Int} {m0 ms : List Int} {j : Nat} {q : RSt} (h : RI W m0 j q) (hst : q.stage = 5) (hk : ¬ (q.xs.length : Int) + 1 < sF W m0) : (rstep 1 (12 + 4 * W) W q ms).1.stage = 6 ∧ ROk W (rstep 1 (12 + 4 * W) W q ms).1 := by
  have b1 := h.bp
  have b2 := h.bi
  unfold Bit at b1 b2
  have l := (h.l4 (by omega)).2
  obtain ⟨st, p, i, lf, sp, xs⟩ := q
  dsimp only at hst hk b1 b2 l
  subst hst l
  have e : (rstep 1 (12 + 4 * W) W ⟨5, p, i, sF W m0, sp, xs⟩ ms).1.stage = 6 := by simp [rstep, hk]
  refine ⟨e, ?_⟩
  have st := h.stamp
  exact ⟨by show 0 ≤ p; omega, by show p ≤ 1; omega, by show 0 ≤ i; omega, by show i ≤ 1; omega, fun a => by rw [e] at a; omega, fun a => by rw [e] at a; omega, st.1, st.2⟩

/-- Behind k steps of the read. -/
def AIn (bm bw rb db L : Nat) (per tt : Int) (m0 : List Int) (w9 : World) (j : Nat) (wi : World) : Prop :=
  ∃ q da dc ms, Like 16 m0 ms ∧ MemAt wi bm bw ms ∧ RdAt wi rb da dc 1 76 16 per q ∧ Keeps [rb, bw, db] w9 wi ∧ (∀ x, rown da dc q = some x → w9.heap.size ≤ x) ∧
    ((RI 16 m0 j q ∧ ∃ d, Blk wi db (DidV.cells d) 53) ∨ (j = L + 5 ∧ q.stage = 6 ∧ q.xs = sX 16 m0 L ∧ ROk 16 q ∧ Blk wi db #[.bool true, .int .i64 0, .slice da L dc, .bool (decide (tt ≤ per)), .int .i64 0, .bool false, .bool false, .bool false, .int .i64 0] 53))

set_option maxRecDepth 100000 in
set_option maxHeartbeats 16000000 in
theorem FourAlone_any (sa : Option Addr) (n c : Nat) (xs : List Int) (hn : n ≤ 9223372036854775807) (hxl : xs.length = n) (hxr : ∀ j, 0 ≤ rd xs j ∧ rd xs j ≤ 4294967295) (per : Int) (p0 : 0 ≤ per) (p1 : per ≤ 65535) (t0 t1 : Int) (h00 : 0 ≤ t0) (h01 : t0 ≤ 65535) (h10 : 0 ≤ t1) (h11 : t1 ≤ 65535) (w : World)
    (hc : SliceIs w sa n xs) :
    Calls Try.prog 4 #[.slice sa n c, .int .u16 per, .agg #[.int .u16 t0, .int .u16 t1]] w (LawTo w) := by
  have Hc := Lib.hid hc
  clear hc
  by_cases hbig : n < 1 ∨ 16 < n
  · go_enter Try.func4, Try.ntmps4
    rcases hbig with hb | hb
    · obtain rfl : n = 0 := by omega
      go_wp2_with (first | (go_at_call 7; (with_reducible refine (wakes_any _).mono ?_); rintro e w0 ⟨rfl, hk0⟩) | (fail))
      go_ret
      exact ⟨rfl, below_keeps (Below.refl _ _) (((Keeps.refl [] w).alloc _).trans hk0) (by simp) (Nat.le_refl _)⟩
    · have hb1 : (16 : Int) < (n : Int) := by omega
      have hb2 : ¬ (n : Int) < 1 := by omega
      go_wp2_with (first | (go_at_call 7; (with_reducible refine (wakes_any _).mono ?_); rintro e w0 ⟨rfl, hk0⟩) | (fail))
      go_ret
      exact ⟨rfl, below_keeps (Below.refl _ _) (((Keeps.refl [] w).alloc _).trans hk0) (by simp) (Nat.le_refl _)⟩
  · have hb1 : ¬ (16 : Int) < (n : Int) := by omega
    have hb2 : ¬ (n : Int) < 1 := by omega
    have hn1 : 1 ≤ n := by omega
    have hn16 : n ≤ 16 := by omega
    have hwp : IntKind.i64.wrap per = per := wrap_i64 (by omega) (by omega)
    have hw0 : IntKind.i64.wrap t0 = t0 := wrap_i64 (by omega) (by omega)
    have hw1 : IntKind.i64.wrap t1 = t1 := wrap_i64 (by omega) (by omega)
    have hw2 : IntKind.i64.wrap (t0 + t1) = t0 + t1 := wrap_i64 (by omega) (by omega)
    clear hbig
    go_enter Try.func4, Try.ntmps4
    go_upto_region 11 with (first | (go_at_call 7; (with_reducible refine (wakes_any _).mono ?_); rintro e w0 ⟨rfl, hka⟩; have hk0 : Keeps [] w w0 := ((Keeps.refl [] w).alloc _).trans hka; have HA := Lib.hid ((Blk.new w #[.int .u16 t0, .int .u16 t1] 48).keep hka (by simp)); clear hka) | (go_at_call 8; (with_reducible refine (two_any 16 per _ (by omega) (by omega) (by omega) (by omega)).mono ?_); rintro e w1 ⟨pb, cb, f0, f1, rfl, hk1, hC1, hbl1⟩; have hacc := two_acc pb cb f0 f1 16 per (by omega) (by omega) (by omega) (by omega); have HC1 := Lib.hid hC1; clear hC1; have HK1 := Lib.hid (hk0.trans hk1 : Keeps [] w w1); have hz1 := hk1.size; have HA1 := Lib.hid (HA.out.keep hk1 (by simp)); clear hk1; simp only [CfgV.cells]) | (go_at_call 10; (with_reducible refine (refSize_any (twoC pb cb f0 f1 16 per) hacc _ (HC1.out.kept (by (repeat' with_reducible (first | exact Keeps.refl _ _ | assumption | apply Keeps.drew | apply Keeps.drewN | apply Keeps.alloc))))).mono ?_); rintro e w2 ⟨rfl, hk2⟩; rw [two_b1]; have B1 : Blk w2 w1.heap.size (twoC pb cb f0 f1 16 per).cells 31 := Blk.keep (l := []) (by (repeat' (first | with_reducible (first | assumption | apply Blk.drew | (refine Blk.newAt ?_; first | rfl | (simp; done)) | apply Blk.alloc)))) hk2 (by simp); have HB1 := Lib.hid B1; clear B1) | (go_at_call 9; (with_reducible refine (New_at (77) _ (by omega) _ (by omega)).mono ?_); rintro e w3 ⟨bm, bw, rfl, hk3, hbm, hbw, hM3⟩; have B3 := HB1.out.keep hk3 (by simp); have C3 := B3.cell; have L3 := B3.lt; have HB3 := Lib.hid B3; clear B3; have HC3 := Lib.hid (HC1.out.kept (Keeps.trans (Keeps.trans (by (repeat' with_reducible (first | exact Keeps.refl _ _ | assumption | apply Keeps.drew | apply Keeps.drewN | apply Keeps.alloc))) hk2) hk3)); have HM3 := Lib.hid hM3; clear hM3; have HK3 := Lib.hid (Keeps.trans HK1.out (Keeps.trans (Keeps.trans (by (repeat' with_reducible (first | exact Keeps.refl _ _ | assumption | apply Keeps.drew | apply Keeps.drewN | apply Keeps.alloc))) hk2) hk3) : Keeps [] w w3); have HA3 := Lib.hid (HA1.out.keep (Keeps.trans (Keeps.trans (by (repeat' with_reducible (first | exact Keeps.refl _ _ | assumption | apply Keeps.drew | apply Keeps.drewN | apply Keeps.alloc))) hk2) hk3) (by simp)); have Ca3 := HA3.out.cell; have La3 := HA3.out.lt) | (fail))
    have hs3 := HK3.out.size
    have hz0 := hk0.size
    have hz2 := hk2.size
    simp at hz2
    have hnb : w2.heap.size ≤ w3.heap.size := hk3.size
    have hcl : ∀ x, x ∈ (twoC pb cb f0 f1 16 per).blocks → x < w2.heap.size := fun x hx => by have := two_blk HC1.out x hx; omega
    have hcn : w1.heap.size < w2.heap.size := by omega
    have hwn : w.heap.size ≤ w2.heap.size := by omega
    have hb3 : Below w.heap.size w w3 := below_keeps (l := []) (Below.refl _ _) HK3.out (by simp) (Nat.le_refl _)
    have Hb3 := Lib.hid hb3
    have Hcl := Lib.hid hcl
    have hmb := HM3.out.hm.lt
    have hmb2 := HM3.out.hw.lt
    have hmn := HM3.out.ne
    have hbm2 : w2.heap.size ≤ bm := hbm
    have hbw2 : w2.heap.size ≤ bw := hbw
    have hc3 : SliceIs w3 sa n xs := Hc.out.keep HK3.out (fun x a => by simp)
    obtain ⟨ab, ao, rfl, hab0⟩ := hc3 0 (by omega)
    have hab := lt_of_cell hab0
    obtain ⟨ab2, ao2, e2, hab2⟩ := Hc.out 0 (by omega)
    cases e2
    have habw := lt_of_cell hab2
    have Hc3 := Lib.hid hc3
    have hrow : ∀ j u, (xs.map (Value.int .u32))[j]? = some u → w3.cell? ((⟨ab, ao, none⟩ : Addr).add j) = some u := by
      intro j u hj
      rw [List.getElem?_map] at hj
      cases hx : xs[j]? with
      | none => rw [hx] at hj; simp at hj
      | some v =>
        rw [hx] at hj
        obtain ⟨hjl, hjv⟩ := List.getElem?_eq_some_iff.1 hx
        obtain ⟨b', o', e3, h3⟩ := Hc3.out j (by omega)
        cases e3
        rw [addr_add, h3]
        simp at hj
        rw [← hj]
        simp [rd, hjl, hjv]
    have Hrow := Lib.hid hrow
    clear hbl1 hk0 hk2 hk3 HC1 HK1 HK3 HB1 hbm hbw hz0 hz1 hz2 hcl hb3 hs3 hc3 hab0 hab2 hrow HA HA1 HA3 Ca3 La3 Hc
    generalize w2.heap.size = nb at *
    generalize w1.heap.size = ck at *
    have HX := Lib.hid hxr
    clear hxr
    go_upto_block 0 with (first | (go_at_call 13; (with_reducible refine (NewWriter_at (twoC pb cb f0 f1 16 per) 0 n _ ab ao xs _ ?_ ?_ hacc _ HC3.out Hrow.out hxl ?_ ?_ ?_).mono ?_); (simp); (simp); (omega); (omega); (exact hab); rintro e w5 ⟨wb, wbd, wcap, dv, rfl, hk5, hwb, hwbd, hne5, hW5, hdv5, hdx5⟩; rw [two_b0, two_sz, show (1 : Int) + (11 + 4 * 16) = 76 by omega] at hW5; have hz5 := hk5.size; have HW5 : Hid (WrAt w5 wb wbd n wcap 1 76 16 per xs ⟨0, 0, 0, 0, false⟩) := Lib.hid ⟨hW5, ⟨dv, hdv5, hdx5⟩, hne5⟩; have hwl := hW5.lt; have hwdl := hdv5.lt; have HK5 := Lib.hid hk5; clear hW5 hdv5 hdx5 hk5) | (fail))
    have HM5 := Lib.hid (HM3.out.keep HK5.out (by simp) (by simp))
    have HC5 := Lib.hid (HC3.out.kept HK5.out)
    have HB5 := Lib.hid (HB3.out.keep HK5.out (by simp))
    have hN5 : wb ≠ bm ∧ wb ≠ bw ∧ wbd ≠ bm ∧ wbd ≠ bw ∧ nb ≤ wb ∧ nb ≤ wbd := by omega
    have HM5' : Hid (MemAt w5 bm bw (List.replicate 77 0)) := HM5
    go_cut [13] (fun v13 wx => ∃ ms q, v13 = .bool true ∧ WI n xs t0 (6 + n) q ms ∧ MemAt wx bm bw ms ∧ WrAt wx wb wbd n wcap 1 76 16 per xs q ∧ Keeps [wb, bw] w5 wx)
    case first =>
      go_wp2_with fail
      go_loopw [13, 56] (fun v13 x wr => ∃ k : Nat, k ≤ n + 6 ∧ x = .int .i64 k ∧ v13 = .bool (decide (4 ≤ k)) ∧ ∃ ms q, WI n xs t0 k q ms ∧ MemAt wr bm bw ms ∧ WrAt wr wb wbd n wcap 1 76 16 per xs q ∧ Keeps [wb, bw] w5 wr) (fun _ x _ => n + 6 - (intOf x).toNat)
      case atStart => exact ⟨0, by omega, rfl, rfl, _, _, WI.start _ _ _, HM5'.out, HW5.out, Keeps.refl _ _⟩
      case round =>
        obtain ⟨k, hk, rfl, rfl, ms, q, hwi, hm, hw, hkp⟩ := hrel
        have Hwi := Lib.hid hwi
        have Hm := Lib.hid hm
        have Hw := Lib.hid hw
        have Hkp := Lib.hid hkp
        have hk0 : (0 : Int) ≤ (k : Int) := Int.natCast_nonneg _
        clear hwi hm hw hkp
        by_cases hkn : k < n + 6
        · have hk1 : (k : Int) < (n : Int) + 6 := by omega
          obtain ⟨hstep, hstm⟩ := Hwi.out.step hn1 hn16 (by omega) h00 (by omega) HX.out
          have hok := Hwi.out.wok hn1 hn16 (by omega)
          have Hstep := Lib.hid hstep
          obtain ⟨⟨z0, z1, z2, z3, z4, z5, z6, z7, z8, z9, z10⟩, hd⟩ : ∃ d, (wstep 1 76 16 n xs q ms t0).1 = d := ⟨_, rfl⟩
          rw [hd] at hstm
          dsimp only at hstm
          have Hd := Lib.hid hd
          clear hstep hd
          have h34 : (decide (4 ≤ k) || z9) = decide (4 ≤ k + 1) := by
            rw [hstm]
            by_cases c4 : 4 ≤ k
            · have : 4 ≤ k + 1 := by omega
              simp [c4, this]
            · by_cases c3 : k = 3
              · subst c3; rfl
              · have : ¬ 4 ≤ k + 1 := by omega
                simp [c4, this, c3]
          clear hstm
          go_wp2_with (first | (go_at_call 14; (with_reducible refine (WStep_any wb bm bw wbd n wcap 1 76 16 per xs q ms t0 _ Hm.out Hw.out Hwi.out.ok Hwi.out.geo hok h00 (by omega) hN5.1 hN5.2.1 hN5.2.2.2.1).mono ?_); rintro e w6 ⟨rfl, hk6, hm6, hw6⟩; rw [Hd.out]; have H6 := Lib.hid (And.intro hk6 (And.intro hm6 hw6)); have hwb6 := hw6.obj.lt; clear hk6 hm6 hw6; simp only [DidV.cells]) | (fail))
          all_goals
            go_roundw
            case rel =>
              have k6 : Keeps [] w6 (w6.alloc (.cells #[.bool z0, .int .i64 z1, .slice z2 z3 z4, .bool z5, .int .i64 z6, .bool z7, .bool z8, .bool z9, .int .i64 z10] 53)) := (Keeps.refl _ _).alloc _
              exact ⟨k + 1, by omega, by go_num, (by first | rfl | (simp; done) | (simp; omega)), _, _, Hstep.out, H6.out.2.1.keep k6 (by simp) (by simp), H6.out.2.2.keep k6 (by simp) (by simp), (Hkp.out.trans H6.out.1).alloc _⟩
            case measure => (simp [intOf]; try omega)
        · obtain rfl : k = n + 6 := by omega
          have hk1 : ¬ ((n : Int) + 6) < (n : Int) + 6 := by omega
          have e46 : decide (4 ≤ n + 6) = true := by simp
          go_wp2_with fail
          go_meet
          case rel =>
            have h := Hwi.out
            rw [show n + 6 = 6 + n by omega] at h
            exact ⟨ms, q, (by first | rfl | (simp; done) | (simp; omega)), h, Hm.out, Hw.out, Hkp.out⟩
    case rest =>
      obtain ⟨m0, qw, rfl, hwi, hm, hw, hkp⟩ := hcut
      obtain ⟨f1, f2, f3, f4, f5, f6, f7⟩ := hwi.found hn1 hn16 hxl
      have hst7 := hwi.st7 (by omega)
      have Hwi := Lib.hid hwi
      have Hm := Lib.hid hm
      have Hw := Lib.hid hw
      have hk3c : Keeps [bw] w3 wc := Keeps.freshL (HK5.out.mono (by simp)) hkp (fun x hx => by
        simp only [List.mem_cons, List.not_mem_nil, or_false] at hx
        rcases hx with rfl | rfl
        · exact .inr hwb
        · exact .inl (by simp))
      have HCc := Lib.hid (HC3.out.keep hk3c (fun x a => by have := Hcl.out x a; simp; omega))
      have Hckc := Lib.hid (HB3.out.keep hk3c (by simp; omega))
      have Hsc := Lib.hid (Hc3.out.keep hk3c (fun x a => by simp [blockOf] at a; simp; omega))
      have hbc := below_keeps (Below.refl nb w3) hk3c (by simp; omega) hnb
      have Hbc := Lib.hid hbc
      have hckcc := Hckc.out.cell
      have hckcl := Hckc.out.lt
      have hszc := hk3c.size
      have hwlc := hw.obj.lt
      have hwdc := hw.data.elim fun _ d => d.1.lt
      have Hf := Lib.hid (And.intro f1 (And.intro f2 (And.intro f3 (And.intro f4 (And.intro f5 (And.intro f6 f7))))))
      have Hst7 := Lib.hid hst7
      have hok7 := hwi.wok hn1 hn16 (by omega)
      have Hok7 := Lib.hid hok7
      clear f1 f2 f3 f4 f5 f6 f7 hst7 hok7 hwi hm hw hkp hk3c hbc HM5 HM5' HB5 HC5 HW5 HK5 hwb hwbd hz5
      go_upto_region 20 with (first | (go_at_call 15; (with_reducible refine (NewReader_at (twoC pb cb f0 f1 16 per) 0 _ (by simp) (by simp) hacc _ HCc.out).mono ?_); rintro e w8 ⟨rb, rfl, hk8, hrb, hR8⟩; have hz8 := hk8.size; have HR8 := Lib.hid hR8; have HK8 := Lib.hid hk8; clear hR8 hk8) | (fail))
      have hD9 := Blk.new w8 #[.bool false, .int .i64 0, .slice none 0 0, .bool false, .int .i64 0, .bool false, .bool false, .bool false, .int .i64 0] 53
      have k9 : Keeps [] w8 (w8.alloc (.cells #[.bool false, .int .i64 0, .slice none 0 0, .bool false, .int .i64 0, .bool false, .bool false, .bool false, .int .i64 0] 53)) := (Keeps.refl _ _).alloc _
      have k89 := HK8.out.trans k9
      have hR9 := HR8.out.keep k9 (by simp)
      rw [two_b0, two_sz, show (1 : Int) + (11 + 4 * 16) = 76 by omega] at hR9
      have hsz9 : (w8.alloc (.cells #[.bool false, .int .i64 0, .slice none 0 0, .bool false, .int .i64 0, .bool false, .bool false, .bool false, .int .i64 0] 53)).heap.size = w8.heap.size + 1 := by simp
      have hrl := HR8.out.lt
      have HR9 := Lib.hid hR9
      have HM9 := Lib.hid (Hm.out.keep k89 (by simp) (by simp))
      have HW9 := Lib.hid (Hw.out.keep k89 (by simp) (by simp))
      have HS9 := Lib.hid (Hsc.out.keep k89 (fun x a => by simp))
      have HB9 := Lib.hid (below_keeps Hbc.out k89 (by simp) hnb)
      have HD9 := Lib.hid hD9
      clear hR9 hD9 k9 k89 HK8 HR8 Hm Hw Hsc
      generalize w8.alloc (.cells #[.bool false, .int .i64 0, .slice none 0 0, .bool false, .int .i64 0, .bool false, .bool false, .bool false, .int .i64 0] 53) = w9 at *
      generalize w8.heap.size = db at *
      have hne : bw ≠ rb ∧ bw ≠ db ∧ bm ≠ rb ∧ bm ≠ db ∧ rb ≠ db ∧ wb ≠ rb ∧ wb ≠ db ∧ wbd ≠ rb ∧ wbd ≠ db := by omega
      have hnbd : nb ≤ rb ∧ nb ≤ db ∧ nb ≤ w9.heap.size := by omega
      go_wp2_with fail
      go_loopw [73] (fun x wi => ∃ j : Nat, j ≤ n + 5 ∧ x = .int .i64 j ∧ AIn bm bw rb db n per t1 m0 w9 j wi) (fun x _ => n + 5 - (intOf x).toNat)
      case atStart => exact ⟨0, by omega, rfl, ⟨0, 0, 0, 0, 0, []⟩, none, 0, m0, Hf.out.2.2.2.2.2.2, HM9.out, ⟨HR9.out, World.ownsRow_nil _ _ _ _⟩, Keeps.refl _ _, fun x hx => absurd hx (by simp [rown, Value.ownBlock]), .inl ⟨RI.start _ _, {}, HD9.out⟩⟩
      case round =>
        obtain ⟨j, hj, rfl, q, da, dc, mi, hli, hmi, hrd, hki, hoi, hst⟩ := hrel
        have hj0 : (0 : Int) ≤ (j : Int) := Int.natCast_nonneg _
        have hown : ∀ x, x ∈ (rb :: bw :: (Value.slice da q.xs.length dc).ownBlock.toList) → x = rb ∨ x = bw ∨ w9.heap.size ≤ x := by
          intro x hx
          simp only [List.mem_cons, Option.mem_toList] at hx
          rcases hx with a | a | a
          · exact .inl a
          · exact .inr (.inl a)
          · exact .inr (.inr (hoi x a))
        have Hli := Lib.hid hli
        have Hmi := Lib.hid hmi
        have Hrd := Lib.hid hrd
        have Hki := Lib.hid hki
        have Hoi := Lib.hid hoi
        have Hown := Lib.hid hown
        have hwi := hki.size
        clear hli hmi hrd hki hoi hown
        by_cases hjn : j < n + 5
        · have hj1 : (j : Int) < (n : Int) + 5 := by omega
          rcases hst with ⟨hri, ⟨y0, y1, y2, y3, y4, y5, y6, y7, y8, y9, y10⟩, hdb⟩ | ⟨e, _⟩
          · simp only [DidV.cells] at hdb
            have Hri := Lib.hid hri
            have Hdb := Lib.hid hdb
            obtain ⟨hl2, hstep⟩ := hri.step Hli.out (by omega : (1 : Int) ≤ 16) per (t0 + t1)
            have Hl2 : Hid (Like 16 m0 (rstep 1 76 16 q mi).2) := Lib.hid hl2
            have Hgeo : Hid (Geo 1 76 16 mi) := Lib.hid (Hli.out.geo (by omega) (by omega))
            clear hri hdb hl2
            cases hstep with
            | none hz _ _ => have := Hf.out.2.2.1; omega
            | going hi hd =>
              have Hgo : Hid (RI 16 m0 (j + 1) (rstep 1 76 16 q mi).1) := Lib.hid hi
              have Hdn := Lib.hid hd
              clear hi hd
              go_wp2_with (first | (go_at_call 16; (with_reducible refine (RStep_any rb bm bw dc da 1 76 16 per q mi (t0 + t1) _ Hmi.out Hrd.out Hli.out.ok Hgeo.out Hri.out.rok (by omega) (by omega) ?_ ?_ ?_ ?_ ?_).mono ?_); (omega); (omega); (intro e; have := Hoi.out rb e.symm; omega); (intro e; have := Hoi.out bm e.symm; omega); (intro e; have := Hoi.out bw e.symm; omega); rintro e w6 ⟨da6, dc6, rfl, hk6, hm6, hr6, ho6⟩; have hd6 := Hdn.out da6 dc6; have B6 := Hdb.out.keep hk6 (fun a => by rcases Hown.out _ a with b | b | b <;> omega); have C6 := B6.cell; have F6 := B6.frozen; have L6 := B6.lt; have H6 := Lib.hid (And.intro B6 (And.intro hk6 (And.intro hm6 (And.intro hr6 ho6)))); clear B6 hk6 hm6 hr6 ho6; (generalize rdid 1 16 per q mi (t0 + t1) da6 dc6 = r at *; obtain ⟨z0, z1, z2, z3, z4, z5, z6, z7, z8, z9, z10⟩ := r; dsimp only at hd6; subst hd6; simp only [DidV.cells])) | (fail))
              go_roundw
              case rel =>
                obtain ⟨B6, hk6, hm6, hr6, ho6⟩ := H6.out
                have k10 : Keeps [db] w6 (((((((((w6.setCell ⟨db, 0, none⟩ (.bool false)).setCell ⟨db, 1, none⟩ (.int .i64 z1)).setCell ⟨db, 2, none⟩ (.slice z2 z3 z4)).setCell ⟨db, 3, none⟩ (.bool z5)).setCell ⟨db, 4, none⟩ (.int .i64 z6)).setCell ⟨db, 5, none⟩ (.bool z7)).setCell ⟨db, 6, none⟩ (.bool z8)).setCell ⟨db, 7, none⟩ (.bool z9)).setCell ⟨db, 8, none⟩ (.int .i64 z10)) := by (repeat' with_reducible (first | exact Keeps.refl _ _ | (refine Keeps.setCell ?_ (by simp) _)))
                have ho7 : ∀ x, rown da6 dc6 (rstep 1 76 16 q mi).1 = some x → w9.heap.size ≤ x := by
                  intro x hx
                  rcases ho6 with a | ⟨g, a, b⟩
                  · exact Hoi.out x (a.symm.trans hx)
                  · have := Option.some.inj (a.symm.trans hx); omega
                have hk11 : Keeps [rb, bw, db] w9 w6 := Hki.out.freshL hk6 (fun x hx => by rcases Hown.out x hx with b | b | b <;> simp [b])
                have := Hgo.out.last (by have := Hf.out.2.2.2.1; omega)
                have := Hf.out.2.2.2.1
                exact ⟨j + 1, by omega, by go_num, _, da6, dc6, _, Hl2.out, hm6.keep k10 (by simp; omega) (by simp; omega), hr6.keep k10 (by simp; omega) (fun x hx => by have := ho7 x hx; simp; omega), hk11.freshL k10 (fun x hx => by simp at hx; simp [hx]), ho7, .inl ⟨Hgo.out, ⟨false, z1, z2, z3, z4, z5, z6, z7, z8, z9, z10⟩, B6.nine⟩⟩
              case measure => simp [intOf]; omega
            | found k hjk hst5 hk hl hx hd =>
              have hsn := Hf.out.2.2.2.1
              have hkn : k + 1 = n := by omega
              have hjn2 : j + 1 = n + 5 := by omega
              have hx5 := (Hri.out.x5 hst5).1
              have hend := Hri.out.ends (ms := mi) hst5 (by omega)
              have hstamp := Hri.out.s5 hst5
              rw [Hf.out.2.2.2.2.2.1] at hstamp
              have hval : decide (t0 + t1 - q.stamp ≤ per) = decide (t1 ≤ per) := by rw [hstamp, show t0 + t1 - t0 = t1 by omega]
              rw [hval, hkn] at hd
              rw [hkn] at hx
              have Hfin := Lib.hid hd
              have Hxs : Hid ((rstep 1 76 16 q mi).1.xs = sX 16 m0 n ∧ (rstep 1 76 16 q mi).1.stage = 6 ∧ ROk 16 (rstep 1 76 16 q mi).1) := Lib.hid (And.intro hx hend)
              clear hd hx hend hval hstamp hk hjk hx5
              go_wp2_with (first | (go_at_call 16; (with_reducible refine (RStep_any rb bm bw dc da 1 76 16 per q mi (t0 + t1) _ Hmi.out Hrd.out Hli.out.ok Hgeo.out Hri.out.rok (by omega) (by omega) ?_ ?_ ?_ ?_ ?_).mono ?_); (omega); (omega); (intro e; have := Hoi.out rb e.symm; omega); (intro e; have := Hoi.out bm e.symm; omega); (intro e; have := Hoi.out bw e.symm; omega); rintro e w6 ⟨da6, dc6, rfl, hk6, hm6, hr6, ho6⟩; have hd6 := Hfin.out da6 dc6; rw [hd6]; have B6 := Hdb.out.keep hk6 (fun a => by rcases Hown.out _ a with b | b | b <;> omega); have C6 := B6.cell; have F6 := B6.frozen; have L6 := B6.lt; have H6 := Lib.hid (And.intro B6 (And.intro hk6 (And.intro hm6 (And.intro hr6 ho6)))); clear B6 hk6 hm6 hr6 ho6; simp only [DidV.cells]) | (fail))
              go_roundw
              case rel =>
                obtain ⟨B6, hk6, hm6, hr6, ho6⟩ := H6.out
                have k10 : Keeps [db] w6 (((((((((w6.setCell ⟨db, 0, none⟩ (.bool true)).setCell ⟨db, 1, none⟩ (.int .i64 0)).setCell ⟨db, 2, none⟩ (.slice da6 n dc6)).setCell ⟨db, 3, none⟩ (.bool (decide (t1 ≤ per)))).setCell ⟨db, 4, none⟩ (.int .i64 0)).setCell ⟨db, 5, none⟩ (.bool false)).setCell ⟨db, 6, none⟩ (.bool false)).setCell ⟨db, 7, none⟩ (.bool false)).setCell ⟨db, 8, none⟩ (.int .i64 0)) := by (repeat' with_reducible (first | exact Keeps.refl _ _ | (refine Keeps.setCell ?_ (by simp) _)))
                have ho7 : ∀ x, rown da6 dc6 (rstep 1 76 16 q mi).1 = some x → w9.heap.size ≤ x := by
                  intro x hx
                  rcases ho6 with a | ⟨g, a, b⟩
                  · exact Hoi.out x (a.symm.trans hx)
                  · have := Option.some.inj (a.symm.trans hx); omega
                have hk11 : Keeps [rb, bw, db] w9 w6 := Hki.out.freshL hk6 (fun x hx => by rcases Hown.out x hx with b | b | b <;> simp [b])
                exact ⟨j + 1, by omega, by go_num, _, da6, dc6, _, Hl2.out, hm6.keep k10 (by simp; omega) (by simp; omega), hr6.keep k10 (by simp; omega) (fun x hx => by have := ho7 x hx; simp; omega), hk11.freshL k10 (fun x hx => by simp at hx; simp [hx]), ho7, .inr ⟨hjn2, Hxs.out.2.1, Hxs.out.1, Hxs.out.2.2, B6.nine⟩⟩
              case measure => simp [intOf]; omega
          · omega
        · obtain rfl : j = n + 5 := by omega
          have hj1 : ¬ (n : Int) + 5 < (n : Int) + 5 := by omega
          rcases hst with ⟨hri, _⟩ | ⟨_, hq6, hqx, hqok, hdb⟩
          · have := hri.last (by have := Hf.out.2.2.2.1; omega)
            have := Hf.out.2.2.2.1
            omega
          · have Hq := Lib.hid (And.intro hq6 (And.intro hqx hqok))
            have Hdb := Lib.hid hdb
            have hdc := hdb.cell
            clear hdb hq6 hqx hqok
            have hsl : SliceIs wr da n xs := by
              have q1 := SliceIs.ofRow Hrd.out.data
              have e : q.xs = xs := Hq.out.2.1.trans Hf.out.2.2.2.2.1
              rw [e, hxl] at q1
              exact q1
            have hsl2 : SliceIs wr (some ⟨ab, ao, none⟩) n xs := HS9.out.keep Hki.out (fun x a => by simp [blockOf] at a; simp; omega)
            have HSL := Lib.hid (And.intro hsl hsl2)
            have hwr := HW9.out.keep Hki.out (by simp; omega) (by simp; omega)
            have HWR := Lib.hid hwr
            have hB := below_keeps HB9.out Hki.out (by simp; omega) hnb
            have HBi := Lib.hid hB
            have hown7 : (∀ x, (Value.slice da q.xs.length dc).ownBlock = some x → w9.heap.size ≤ x) := Hoi.out
            have Hown7 := Lib.hid hown7
            have hrdid : ∀ a b, rdid 1 16 per q mi (t0 + t1) a b = {} := fun a b => by unfold rdid; rw [Hq.out.1]; rfl
            have Hrdid := Lib.hid hrdid
            have hrs : rstep 1 76 16 q mi = (q, mi) := by unfold rstep; rw [Hq.out.1]; rfl
            have Hrs := Lib.hid hrs
            have hws : ∀ now, wstep 1 76 16 n xs qw mi now = ({}, qw, mi) := fun now => by unfold wstep; rw [Hst7.out]; rfl
            have Hws := Lib.hid hws
            have hgeo : Geo 1 76 16 mi := Hli.out.geo (by omega) (by omega)
            have Hgeo := Lib.hid hgeo
            have hsub : IntKind.i64.wrap (t0 + t1 - t0) = t1 := by rw [show t0 + t1 - t0 = t1 by omega]; exact hw1
            clear hsl hsl2 hwr hB hown7 hrdid hrs hws hgeo
            go_wp2_with (first | (go_at_call 17; (with_reducible refine (SameAnswer_yes _ _ _ da (some ⟨ab, ao, none⟩) _ dc c xs (by omega) _ (HSL.out.1.keep (l := []) ?_ (by simp)) (HSL.out.2.keep (l := []) ?_ (by simp))).mono ?_); (repeat' with_reducible (first | exact Keeps.refl _ _ | assumption | apply Keeps.drew | apply Keeps.drewN | apply Keeps.alloc)); (repeat' with_reducible (first | exact Keeps.refl _ _ | assumption | apply Keeps.drew | apply Keeps.drewN | apply Keeps.alloc)); rintro e w6 ⟨rfl, hk6⟩; have hz6 := hk6.size; have HBi := Lib.hid (below_keeps (below_keeps HBi.out (l := []) (by (repeat' with_reducible (first | exact Keeps.refl _ _ | assumption | apply Keeps.drew | apply Keeps.drewN | apply Keeps.alloc))) (by simp) hnb) hk6 (by simp) hnb); have hkk : Keeps [] wr w6 := Keeps.trans (by (repeat' with_reducible (first | exact Keeps.refl _ _ | assumption | apply Keeps.drew | apply Keeps.drewN | apply Keeps.alloc))) hk6; have HK6 := Lib.hid hkk; clear hk6 hkk) | (go_at_call 16; (with_reducible refine (RStep_any rb bm bw dc da 1 76 16 per q mi (t0 + t1) _ (Hmi.out.keep HK6.out (by simp) (by simp)) (Hrd.out.keep HK6.out (by simp) (by simp)) Hli.out.ok Hgeo.out Hq.out.2.2 (by omega) (by omega) ?_ ?_ ?_ ?_ ?_).mono ?_); (omega); (omega); (intro e; have := Hown7.out rb e.symm; omega); (intro e; have := Hown7.out bm e.symm; omega); (intro e; have := Hown7.out bw e.symm; omega); rintro e w7 ⟨da7, dc7, rfl, hk7, hm7, hr7, ho7⟩; rw [Hrdid.out]; rw [Hrs.out] at hm7; have hz7 := hk7.size; have HBi := Lib.hid (below_keeps (below_keeps HBi.out (l := []) (by (repeat' with_reducible (first | exact Keeps.refl _ _ | assumption | apply Keeps.drew | apply Keeps.drewN | apply Keeps.alloc))) (by simp) hnb) hk7 (fun x hx => by simp only [List.mem_cons, Option.mem_toList] at hx; rcases hx with a | a | a; (omega); (omega); (have := Hown7.out x a; omega)) hnb); have hw7 := (HWR.out.keep HK6.out (by simp) (by simp)).keep hk7 (fun hx => by simp only [List.mem_cons, Option.mem_toList] at hx; rcases hx with a | a | a; (omega); (omega); (have := Hown7.out _ a; omega)) (fun hx => by simp only [List.mem_cons, Option.mem_toList] at hx; rcases hx with a | a | a; (omega); (omega); (have := Hown7.out _ a; omega)); have HK7 := Lib.hid (And.intro hm7 hw7); clear hk7 hm7 hr7 ho7 hw7; simp only [DidV.cells]) | (go_at_call 14; (with_reducible refine (WStep_any wb bm bw wbd n wcap 1 76 16 per xs qw mi (t0 + t1) _ (HKS.out.1.keep (l := []) ?_ (by simp) (by simp)) (HKS.out.2.keep (l := []) ?_ (by simp) (by simp)) Hli.out.ok Hgeo.out Hok7.out (by omega) (by omega) hN5.1 hN5.2.1 hN5.2.2.2.1).mono ?_); (repeat' with_reducible (first | exact Keeps.refl _ _ | assumption | apply Keeps.drew | apply Keeps.drewN | apply Keeps.alloc)); (repeat' with_reducible (first | exact Keeps.refl _ _ | assumption | apply Keeps.drew | apply Keeps.drewN | apply Keeps.alloc)); rintro e w9' ⟨rfl, hk9, hm9, hw9⟩; rw [Hws.out] at hm9 hw9; rw [Hws.out]; have HBi := Lib.hid (below_keeps (below_keeps HBi.out (l := []) (by (repeat' with_reducible (first | exact Keeps.refl _ _ | assumption | apply Keeps.drew | apply Keeps.drewN | apply Keeps.alloc))) (by simp) hnb) hk9 (by simp; omega) hnb); have HK7 := Lib.hid (And.intro hm9 hw9); clear hk9 hm9 hw9; simp only [DidV.cells]) | (go_at_call 18; (with_reducible refine (SameDid_yes false false false false false 0 0 0 none none 0 0 0 [] (by omega) _ (SliceIs.nil _ _ _) (SliceIs.nil _ _ _)).mono ?_); rintro e w8' ⟨rfl, hks⟩; have HBi := Lib.hid (below_keeps (below_keeps HBi.out (l := []) (by (repeat' with_reducible (first | exact Keeps.refl _ _ | assumption | apply Keeps.drew | apply Keeps.drewN | apply Keeps.alloc))) (by simp) hnb) hks (by simp) hnb); have HKS := Lib.hid (And.intro (HK7.out.1.keep (l := []) hks (by simp) (by simp)) (HK7.out.2.keep (l := []) hks (by simp) (by simp))); clear hks) | (fail))
            go_ret
            exact ⟨rfl, Hb3.out.trans (HBi.out.mono hwn)⟩

end Go.Proofs.Ytpkjffiajidfcaa

/- FourAlone: a read alone finds what was written last, with its stamp: for every input the law returns true, and its arguments read behind the call as before. No conditions. -/
namespace Go.Proofs.Ytpkjffiajidfcaa
open Go.ChangeShapes Go.WideShapes Go.ChangeAt Go.RowKit

theorem open_u16x2 {H : Type} {enc : TypeId × Value → H} {P : Program} {w : World} {base fuel : Nat} {sp : Nat → Bool} {held : Bool} {t e : TypeId} {cs : List Value} {x : DataW H × List MemPlace}
    (ht : P.underlying t = some (.array 2 e)) (he : P.underlying e = some (.int .u16)) (hc : P.cellsOf e = 1) (hct : P.cellsOf t = 2) (h : DataW.trod enc P w base sp held fuel t cs = some x) :
    ∃ a b, cs = [.int .u16 a, .int .u16 b] ∧ (Lit.int .u16 a).wf = true ∧ (Lit.int .u16 b).wf = true := by
  obtain ⟨xs, m, rfl, rfl, hl, hx, hf⟩ := DataW.trod_array ht h
  rw [hct] at hl
  match cs, hl, xs, hx with
  | [c0, c1], _, [x0, x1], _ =>
    have h0 := hf 0 (by omega)
    have h1 := hf 1 (by omega)
    simp [hc] at h0 h1
    obtain ⟨a, ea, _, wa⟩ := DataW.trod_int he h0
    obtain ⟨b, eb, _, wb⟩ := DataW.trod_int he h1
    simp at ea eb
    exact ⟨a, b, by rw [ea, eb], wa, wb⟩

theorem c_u16 : Try.prog.cellsOf 47 = 1 := by kernel_rfl
theorem c_u16x2 : Try.prog.cellsOf 48 = 2 := by kernel_rfl
theorem c_u32 : Try.prog.cellsOf 41 = 1 := by kernel_rfl

set_option maxRecDepth 100000 in
theorem fourAlone_lifted (os : Os) (started : os.Started) (H : Type) (enc : TypeId × Value → H) :
    ReturnsInHanded {} Try.checked os 4 .any (Rows.fourAloneSpec.pre6 enc Try.prog Try.f4 Rows.fourAloneRow.domain false) (Rows.fourAloneSpec.post enc Try.prog Try.f4 false true false false) := by
  refine returnsInHanded_of_change (C := Try.checked) law_own started (by kernel_rfl) Try.func4
    (ChangeSpec.witness6 (enc := enc) (C := Try.checked) false ⟨#[], #[.slice none 0 0, .int .u16 0, .agg #[.int .u16 0, .int .u16 0]], []⟩ 8 (by kernel_rfl) (by kernel_rfl) (by kernel_rfl) (by kernel_rfl)) ?_
  intro W base args ds gs before hval0 hW _ _
  have hval : ∀ (j : Nat) t v, Try.f4.params[j]? = some t → args[j]? = some v → Value.okWide Try.prog W .any base t v := hval0
  have hW' := hW
  obtain ⟨p, q, hA0, hV, rfl, hfz, hnd⟩ := hW
  have hA : DataW.TrodAll enc Try.prog W 0 (fun _ => true) true Try.f4.params.toList args.toList ds p := hA0
  rw [Try.params4] at hA hval
  obtain ⟨v0, vs0, d0, ds0, p0, q0, hargs, rfl, rfl, h0, r0⟩ := trodAll_cons hA
  obtain ⟨v1, vs1, d1, ds1, p1, q1, rfl, rfl, rfl, h1, r1⟩ := trodAll_cons r0
  obtain ⟨v2, vs2, d2, ds2, p2, q2, rfl, rfl, rfl, h2, r2⟩ := trodAll_cons r1
  obtain ⟨rfl, rfl, rfl⟩ := trodAll_nil r2
  obtain rfl : args = #[v0, v1, v2] := by cases args; simp_all
  obtain ⟨rfl, rfl⟩ := trodVars_none hV
  obtain ⟨a1, rfl, rfl, rfl, w1⟩ := open_int Try.underlying47 (hval 1 47 v1 rfl rfl) h1
  have b1 := bounds_u16 w1
  obtain ⟨s0, n0, c0, rfl⟩ := okWide_slice Try.underlying46 (hval 0 46 v0 rfl rfl)
  obtain ⟨fu0, hf0⟩ := h0
  have hB0 : ∃ zs : List Int, n0 ≤ maxLen ∧ zs.length = n0 ∧ (∀ j, 0 ≤ rd zs j ∧ rd zs j ≤ 4294967295) ∧ SliceIs W s0 n0 zs := by
    rcases open_ints Try.underlying46 Try.underlying41 c_u32 hf0 with ⟨hcs, _⟩ | ⟨ad, len, cap, zs, hcs, _, hl, hm, hz, _, hcell, hwz⟩
    · simp [Value.cells] at hcs
      obtain ⟨rfl, rfl, rfl⟩ := hcs
      exact ⟨[], by omega, rfl, fun j => by simp [rd], SliceIs.nil _ _ _⟩
    · simp [Value.cells] at hcs
      obtain ⟨rfl, rfl, rfl⟩ := hcs
      simp only [if_true] at hz
      refine ⟨zs.take n0, by omega, by simp; omega, fun j => ?_, fun j hj => ?_⟩
      · by_cases hj : j < (zs.take n0).length
        · have q := bounds_u32 (hwz _ (List.mem_of_mem_take (List.getElem_mem hj)))
          simp only [rd, List.getD_eq_getElem?_getD, List.getElem?_eq_getElem hj, Option.getD_some]
          exact q
        · have e : (zs.take n0)[j]? = none := List.getElem?_eq_none (by omega)
          simp [rd, List.getD_eq_getElem?_getD, e]
      · obtain ⟨b, o, spot⟩ := ad
        have hs : spot = none := by simpa [Addr.add] using World.cell?_spot (hcell 0 (by omega))
        subst hs
        have q := hcell j (by omega)
        rw [addr_add] at q
        refine ⟨b, o, rfl, q.trans ?_⟩
        simp [rd, List.getElem?_take, hj]
  obtain ⟨zs0, hm0, hzl0, hzr0, hc0⟩ := hB0
  unfold maxLen at hm0
  obtain ⟨fu2, hf2⟩ := h2
  obtain ⟨ta, tb, hcs2, wa2, wb2⟩ := open_u16x2 Try.underlying48 Try.underlying47 c_u16 c_u16x2 hf2
  have hagg : ∃ cs : Array Value, v2 = .agg cs := by
    have q := hval 2 48 v2 rfl rfl
    simp only [Value.okWide, Try.underlying48] at q
    exact q.elim fun cs h => ⟨cs, h.1⟩
  obtain ⟨cs, rfl⟩ := hagg
  have hcsa : cs = #[.int .u16 ta, .int .u16 tb] := by
    have q := hcs2
    simp only [Value.cells] at q
    cases cs; simp_all
  subst hcsa
  have ba := bounds_u16 wa2
  have bb := bounds_u16 wb2
  clear hval0 hA hA0
  refine (FourAlone_any s0 n0 c0 zs0 hm0 hzl0 hzr0 a1 b1.1 b1.2 ta tb ba.1 ba.2 bb.1 bb.2 W hc0).mono fun e W' ⟨he, hb⟩ => ?_
  subst he
  exact ⟨_, rfl, law_post (t := 4) law_laid (by rw [Try.params4]; intro t ht; simp only [List.mem_cons, List.not_mem_nil, or_false] at ht; rcases ht with rfl | rfl | rfl <;> exact ⟨by kernel_rfl, of_decide_eq_true (by kernel_rfl)⟩) (by kernel_rfl) Try.underlying4 hW' rfl rfl rfl rfl hb⟩

theorem fourAlone_holds : Rows.FourAloneSaid :=
  OpenClaim.holds_of_wide 4 Try.f4 rfl rfl rfl rfl rfl rfl rfl ⟨rfl, rfl, rfl, rfl, rfl⟩ rfl rfl rfl rfl rfl (by kernel_rfl) Try.func4 (by kernel_rfl)
    (of_decide_eq_true (by kernel_rfl)) (by unfold Func.isWrapper; first | (rw [if_pos (by decide +kernel)]; kernel_rfl) | (rw [if_neg (by decide +kernel)]; exact ⟨rfl, rfl⟩))
    (fun os started H enc _ => fourAlone_lifted os started H enc)
#print axioms fourAlone_holds
end Go.Proofs.Ytpkjffiajidfcaa
