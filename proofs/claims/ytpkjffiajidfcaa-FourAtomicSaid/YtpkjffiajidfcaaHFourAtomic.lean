/- What every law of this seat hands in, but for its walk: it returned true, and left all that was there as it was. -/
import Derived.Test.YtpkjffiajidfcaaRows
import Derived.ProofKit
import Derived.OpenShut
import Derived.Carry
import Derived.Deep.Grids
import Derived.Test.YtpkjffiajidfcaaG11
set_option linter.all false
set_option linter.unusedVariables false
set_option linter.unusedSimpArgs false

namespace Go.Proofs.Ytpkjffiajidfcaa
open Go.ChangeShapes Go.WideShapes Go.ChangeAt Go.RowKit

/-- The arguments read behind the call as they read before it. -/
theorem trodAll_behind {H : Type} {enc : TypeId × Value → H} {P : Program} (hl : laidOutB P = true) {W W' : World} (hb : Below W.heap.size W W') :
    ∀ {ts : List TypeId} {vs : List Value} {ds : List (DataW H)} {ps : List MemPlace}, (∀ t, t ∈ ts → P.readableRec t = true ∧ t < P.types.size) → DataW.TrodAll enc P W 0 (fun _ => true) true ts vs ds ps →
      (∀ p, p ∈ ps → p.block < W.heap.size) → DataW.TrodAll enc P W' 0 (fun b => decide (b < W.heap.size)) true ts vs ds ps
  | [], _, _, _, _, h, _ => by
    obtain ⟨rfl, rfl, rfl⟩ := trodAll_nil h
    exact trodAll_mk0
  | t :: ts, _, _, _, hr, h, hp => by
    obtain ⟨v, vs, d, ds, p, q, rfl, rfl, rfl, h1, h2⟩ := trodAll_cons h
    exact trodAll_cons_mk (Below.trod hl (hr t (by simp)).1 (hr t (by simp)).2 h1 hb (fun x hx => hp x (by simp [hx]))) (trodAll_behind hl hb (fun t ht => hr t (by simp [ht])) h2 (fun x hx => hp x (by simp [hx])))

/-- The row's end. -/
theorem law_post {H : Type} {enc : TypeId × Value → H} {P : Program} {f : Func} {s : ChangeSpec} {apart : Bool} {W W' : World} {args : Array Value} {ds gs : List (DataW H)} {before : List MemPlace} {t : TypeId}
    (hl : laidOutB P = true) (hr : ∀ t, t ∈ f.params.toList → P.readableRec t = true ∧ t < P.types.size) (hf : f.resultTypes = #[t]) (ht : P.underlying t = some .bool)
    (hW : DataW.Whole enc P f.params.toList s.vars apart W args.toList ds gs before) (hv : s.vars = []) (h1 : (s.fn H (ds ++ gs)).results = [.lit (.bool true)]) (h2 : (s.fn H (ds ++ gs)).args = ds) (h3 : (s.fn H (ds ++ gs)).vars = [])
    (hb : Below W.heap.size W W') : s.post enc P f apart true false false W args (.bool true) W' := by
  have hlt := fun (p : MemPlace) (hp : p ∈ before) => hW.lt p hp
  have hW0 := hW
  obtain ⟨p, q, hA, hV, he, _, _⟩ := hW
  rw [hv] at hV
  obtain ⟨rfl, rfl⟩ := trodVars_none hV
  simp only [List.append_nil] at he
  subst he
  refine ⟨ds, [], before, [], before, [], hW0, ?_, ?_, ?_, World.keptBut_mono (fun x hx => ⟨hx, .inr (.inl hx)⟩) (hb.frame (· ∈ before)), fun a => by cases a⟩
  · rw [h1, hf]
    exact trodAll_cons_mk (shut_bool ht _) trodAll_mk0
  · rw [h2]
    exact trodAll_behind hl hb hr hA hlt
  · rw [h3, hv]
    exact rfl

theorem law_own : ownKnob Try.prog.godebug = none := by kernel_rfl
theorem law_c4 : Try.prog.cellsOf 4 = 1 := by kernel_rfl
theorem law_laid : laidOutB Try.prog = true := by kernel_rfl
end Go.Proofs.Ytpkjffiajidfcaa

/- FourAtomic of the law, walked. -/
namespace Go.Proofs.Ytpkjffiajidfcaa
open Go.RowKit

/-- Where a play begins. -/
def PSt.start (W : Int) : PSt := ⟨List.replicate (13 + 4 * W).toNat 0, ⟨7, 0, 0, 0, false⟩, ⟨6, 0, 0, 0, 0, []⟩, 0, 0, 0, 0, 0, 0, 0, 0⟩

theorem PInv.start {W : Int} (hW : 1 ≤ W) : PInv W (PSt.start W) := by
  have z : ∀ i, rd (List.replicate (13 + 4 * W).toNat 0) i = 0 := rd_zero _
  refine ⟨by simp [PSt.start]; omega, MsOk.zero _, ⟨Int.le_refl 0, (by decide : (0 : Int) ≤ 4294967295)⟩, ?_, fun _ _ => 0, ?_⟩
  · show Core (rd (List.replicate (13 + 4 * W).toNat 0) 1) (rd (List.replicate (13 + 4 * W).toNat 0) _) (slotf (List.replicate (13 + 4 * W).toNat 0)) 7 0 0 6 0 0
    rw [z, z]
    exact { lat01 := .inl rfl, rdg01 := .inl rfl, slot01 := fun p _ => by unfold slotf; rw [z]; exact .inl rfl, wp01 := .inl rfl, wi01 := .inl rfl, rp01 := .inl rfl, ri01 := .inl rfl, stl := by omega, rsl := by omega, A := by omega, I := by omega, B := by omega, D := by omega, C := by omega }
  · show Cont W (rd (List.replicate (13 + 4 * W).toNat 0) 1) (slotf (List.replicate (13 + 4 * W).toNat 0)) (buff W (List.replicate (13 + 4 * W).toNat 0)) (fun _ _ => 0) 7 0 0 0 false 6 0 0 0 [] 0 0 0 0 0 0 0 0
    exact { holds := fun p j _ _ _ => ⟨Int.le_refl _, fun _ => by unfold buff; exact z _, by omega, by omega⟩, part3 := by omega, part4 := by omega, i0 := by omega, i3 := by omega, i4 := by omega, s5 := by omega, s6 := by omega, cur := rfl, le := fun _ _ _ => Int.le_refl _, cnt5 := by omega, cnt6 := by omega, cnt7 := fun _ => ⟨rfl, rfl⟩, st3 := by omega, st4 := by omega, st5 := by omega, st6 := by omega, n0 := by omega, n1 := by omega, mkd := by omega, l0 := by omega, rA := by omega, r6 := fun _ => Int.le_refl _, r12 := by omega, r3 := by omega, r45 := by omega, x4 := by omega, x5 := by omega, o4 := by omega, o5 := by omega }

/-- What a law leaves: true, and all that was there as it was. -/
def LawTo (w : World) (e : Ending) (w' : World) : Prop := e = .returned (.bool true) ∧ Below w.heap.size w w'

/-- A play that has begun in memory of its own. -/
def PlayOn (base : Nat) (c : CfgV) (pl bm bw : Nat) (W per : Int) (k : Int) (w wr : World) : Prop :=
  ∃ wb wbd cap rb da dc P, PlayAt wr base c pl bm bw wb wbd cap rb da dc W per P ∧ PInv W P ∧ P.n ≤ k ∧ Below base w wr

set_option maxRecDepth 100000 in
set_option maxHeartbeats 8000000 in
theorem FourAtomic_any (u : Int) (hu0 : 0 ≤ u) (hu1 : u ≤ 255) (sa : Option Addr) (n c : Nat) (B : Nat → Bool) (hn : n ≤ 9223372036854775807) (w : World)
    (hc : ∀ i, i < n → ∃ b o, sa = some ⟨b, o, none⟩ ∧ w.cell? ⟨b, o + i, none⟩ = some (.bool (B i))) :
    Calls Try.prog 3 #[.int .u8 u, .slice sa n c] w (LawTo w) := by
  have Hc := Lib.hid hc
  clear hc
  by_cases hbig : n > 600
  · have hb1 : (600 : Int) < (n : Int) := by omega
    go_enter Try.func3, Try.ntmps3
    go_wp2_with (first | (go_at_call 7; (with_reducible refine (wakes_any _).mono ?_); rintro e w0 ⟨rfl, hk0⟩) | (fail))
    go_ret
    exact ⟨rfl, below_keeps (Below.refl _ _) hk0 (by simp) (Nat.le_refl _)⟩
  · have hb1 : ¬ (600 : Int) < (n : Int) := by omega
    have hu4 : u.tmod 4 = u % 4 := Int.tmod_eq_emod_of_nonneg hu0
    have hm0 := Int.emod_nonneg u (show (4 : Int) ≠ 0 by decide)
    have hm1 := Int.emod_lt_of_pos u (show (0 : Int) < 4 by decide)
    have hw1 : IntKind.i64.wrap u = u := wrap_i64 (by omega) (by omega)
    have hw2 : IntKind.i64.wrap (u % 4) = u % 4 := wrap_i64 (by omega) (by omega)
    have hw3 : IntKind.i64.wrap (1 + u % 4) = 1 + u % 4 := wrap_i64 (by omega) (by omega)
    go_enter Try.func3, Try.ntmps3
    go_wp2_with (first | (go_at_call 7; (with_reducible refine (wakes_any _).mono ?_); rintro e w0 ⟨rfl, hk0⟩) | (go_at_call 8; (with_reducible refine (two_any (1 + u % 4) 5 _ (by omega) (by omega) (by omega) (by omega)).mono ?_); rintro e w1 ⟨pb, cb, f0, f1, rfl, hk1, hC1, hbl1⟩; have hacc := two_acc pb cb f0 f1 (1 + u % 4) 5 (by omega) (by omega) (by omega) (by omega); have HC1 := Lib.hid hC1; clear hC1; have HK1 := Lib.hid (hk0.trans hk1 : Keeps [] w w1); have hz1 := hk1.size; clear hk1; simp only [CfgV.cells]) | (go_at_call 10; (with_reducible refine (refSize_any (twoC pb cb f0 f1 (1 + u % 4) 5) hacc _ (HC1.out.kept (by (repeat' with_reducible (first | exact Keeps.refl _ _ | assumption | apply Keeps.drew | apply Keeps.drewN | apply Keeps.alloc))))).mono ?_); rintro e w2 ⟨rfl, hk2⟩; rw [two_b1]; have B1 : Blk w2 w1.heap.size (twoC pb cb f0 f1 (1 + u % 4) 5).cells 31 := Blk.keep (l := []) (by (repeat' (first | with_reducible (first | assumption | apply Blk.drew | (refine Blk.newAt ?_; first | rfl | (simp; done)) | apply Blk.alloc)))) hk2 (by simp); have HB1 := Lib.hid B1; clear B1) | (go_at_call 9; (with_reducible refine (New_at ((13 + 4 * (1 + u % 4)).toNat) _ (by omega) _ (by omega)).mono ?_); rintro e w3 ⟨bm, bw, rfl, hk3, hbm, hbw, hM3⟩; have B3 := HB1.out.keep hk3 (by simp); have C3 := B3.cell; have L3 := B3.lt; have HB3 := Lib.hid B3; clear B3; have HC3 := Lib.hid (HC1.out.kept (Keeps.trans (Keeps.trans (by (repeat' with_reducible (first | exact Keeps.refl _ _ | assumption | apply Keeps.drew | apply Keeps.drewN | apply Keeps.alloc))) hk2) hk3)); have HM3 := Lib.hid hM3; clear hM3; have HK3 := Lib.hid (Keeps.trans HK1.out (Keeps.trans (Keeps.trans (by (repeat' with_reducible (first | exact Keeps.refl _ _ | assumption | apply Keeps.drew | apply Keeps.drewN | apply Keeps.alloc))) hk2) hk3) : Keeps [] w w3)) | (fail))
    have hs3 := HK3.out.size
    have hz0 := hk0.size
    have hz2 := hk2.size
    simp at hz2
    have HP0 : Hid (PlayOn w.heap.size (twoC pb cb f0 f1 (1 + u % 4) 5) w3.heap.size bm bw (1 + u % 4) 5 0 w (w3.alloc (.cells (plCells (twoC pb cb f0 f1 (1 + u % 4) 5) bm (.pointer none) (.pointer none) 0 0 0 0 0 0 0 0) 43))) := by
      refine Lib.hid ⟨0, 0, 0, 0, none, 0, PSt.start (1 + u % 4), ⟨Blk.new _ _ _, ⟨HM3.out.alloc _, HC3.out.alloc _, ?_, ⟨by omega, by omega, by omega⟩, ?_, ?_, fun a => absurd rfl a, fun a => absurd rfl a, fun a _ => absurd rfl a⟩⟩, PInv.start (by omega), Int.le_refl _, below_keeps (l := []) (Below.refl _ _) (HK3.out.alloc _) (by simp) (Nat.le_refl _)⟩
      · intro x hx; have := two_blk HC3.out x hx; simp; omega
      · have := HM3.out.hm.lt; have := HM3.out.hw.lt; omega
      · intro x hx
        have a1 := two_blk HC3.out x hx
        have a2 := two_blk HC1.out x hx
        omega
    clear hbl1 hk0 hk2 hk3 C3 L3 HB3 HC1 HC3 HM3 HK1 HK3 HB1 hbm hbw hs3 hz1 hz2
    go_loopw [39] (fun x wr => ∃ i : Nat, i ≤ n ∧ x = .int .i64 i ∧ PlayOn w.heap.size (twoC pb cb f0 f1 (1 + u % 4) 5) w3.heap.size bm bw (1 + u % 4) 5 i w wr) (fun x _ => n - (intOf x).toNat)
    case atStart => exact ⟨0, by omega, rfl, HP0.out⟩
    case round =>
      obtain ⟨i, hi, rfl, wb, wbd, cap, rb, da, dc, P, hP, hI, hPn, hB⟩ := hrel
      have HP := Lib.hid hP
      have HI := Lib.hid hI
      have HB := Lib.hid hB
      have hbs := hB.size
      clear hP hI hB
      by_cases hin : i < n
      · obtain ⟨ab, ao, rfl, hcl⟩ := Hc.out i hin
        have hcr : wr.cell? ⟨ab, ao + i, none⟩ = some (.bool (B i)) := (HB.out.cell (p := ⟨ab, ao + i, none⟩) (lt_of_cell hcl)).trans hcl
        have hi1 : (i : Int) < (n : Int) := by omega
        have hi0 : (0 : Int) ≤ (i : Int) := Int.natCast_nonneg _
        have hi6 : (i : Int) ≤ 600 := by omega
        clear hcl
        cases hBi : B i
        · rw [hBi] at hcr
          go_wp2_with (first | (go_at_call 12; (with_reducible refine (read_any w.heap.size w3.heap.size pb cb f0 f1 bm bw wb wbd cap rb da dc (1 + u % 4) 5 _ P _ HP.out hbs HI.out (by omega) (by omega) hacc (by omega) (by omega) (by omega)).mono ?_); rintro e w5 ⟨rb', da', dc', Q, rfl, hb5, hP5, hI5, hQn, hQs⟩; have HR5 := Lib.hid (And.intro hb5 (And.intro hP5 hI5)); clear hb5 hP5 hI5) | (fail))
          go_roundw
          case rel => exact ⟨i + 1, by omega, by go_num, wb, wbd, cap, rb', da', dc', Q, HR5.out.2.1, HR5.out.2.2, by omega, HB.out.trans HR5.out.1⟩
          case measure => simp [intOf]; omega
        · rw [hBi] at hcr
          go_wp2_with (first | (go_at_call 11; (with_reducible refine (write_any w.heap.size w3.heap.size pb cb f0 f1 bm bw wb wbd cap rb da dc (1 + u % 4) 5 _ P _ HP.out hbs HI.out (by omega) (by omega) hacc (by omega) (by omega) (by omega)).mono ?_); rintro e w5 ⟨wb', wbd', cap', rfl, hb5, hP5⟩; have HR5 := Lib.hid (And.intro hb5 hP5); clear hb5 hP5) | (fail))
          go_roundw
          case rel =>
            obtain ⟨q1, q2, q3⟩ := HI.out.wnew
            exact ⟨i + 1, by omega, by go_num, wb', wbd', cap', rb, da, dc, _, HR5.out.2, (q1.write (by omega) (by omega) q2 _ hi0 (by omega) (by omega)).1, by show P.wnew.n ≤ _; omega, HB.out.trans HR5.out.1⟩
          case measure => simp [intOf]; omega
      · obtain rfl : i = n := by omega
        have hi1 : ¬ (i : Int) < (i : Int) := by omega
        go_wp2_with fail
        go_ret
        exact ⟨rfl, HB.out⟩

end Go.Proofs.Ytpkjffiajidfcaa

/- FourAtomic: whatever steps of a write and of a read follow each other, each read finds one message whole, not an older one than was answered, marked or found ahead of it, and none that is not marked: for every input the law returns true, and its arguments read behind the call as before. No conditions. -/
namespace Go.Proofs.Ytpkjffiajidfcaa
open Go.ChangeShapes Go.WideShapes Go.ChangeAt Go.RowKit

set_option maxRecDepth 100000 in
theorem fourAtomic_lifted (os : Os) (started : os.Started) (H : Type) (enc : TypeId × Value → H) :
    ReturnsInHanded {} Try.checked os 3 .any (Rows.fourAtomicSpec.pre6 enc Try.prog Try.f3 Rows.fourAtomicRow.domain false) (Rows.fourAtomicSpec.post enc Try.prog Try.f3 false true false false) := by
  refine returnsInHanded_of_change (C := Try.checked) law_own started (by kernel_rfl) Try.func3
    (ChangeSpec.witness6 (enc := enc) (C := Try.checked) false ⟨#[], #[.int .u8 0, .slice none 0 0], []⟩ 8 (by kernel_rfl) (by kernel_rfl) (by kernel_rfl) (by kernel_rfl)) ?_
  intro W base args ds gs before hval0 hW _ _
  have hval : ∀ (j : Nat) t v, Try.f3.params[j]? = some t → args[j]? = some v → Value.okWide Try.prog W .any base t v := hval0
  have hW' := hW
  obtain ⟨p, q, hA0, hV, rfl, hfz, hnd⟩ := hW
  have hA : DataW.TrodAll enc Try.prog W 0 (fun _ => true) true Try.f3.params.toList args.toList ds p := hA0
  rw [Try.params3] at hA hval
  obtain ⟨v0, vs0, d0, ds0, p0, q0, hargs, rfl, rfl, h0, r0⟩ := trodAll_cons hA
  obtain ⟨v1, vs1, d1, ds1, p1, q1, rfl, rfl, rfl, h1, r1⟩ := trodAll_cons r0
  obtain ⟨rfl, rfl, rfl⟩ := trodAll_nil r1
  obtain rfl : args = #[v0, v1] := by cases args; simp_all
  obtain ⟨rfl, rfl⟩ := trodVars_none hV
  obtain ⟨a0, rfl, rfl, rfl, w0⟩ := open_int Try.underlying5 (hval 0 5 v0 rfl rfl) h0
  have b0 := bounds_u8 w0
  obtain ⟨s1, n1, c1, rfl⟩ := okWide_slice Try.underlying22 (hval 1 22 v1 rfl rfl)
  obtain ⟨fu1, hf1⟩ := h1
  have hB1 : ∃ B : Nat → Bool, n1 ≤ maxLen ∧ ∀ i, i < n1 → ∃ b o, s1 = some ⟨b, o, none⟩ ∧ W.cell? ⟨b, o + i, none⟩ = some (.bool (B i)) := by
    rcases Deep.open_bools Try.underlying22 Try.underlying4 law_c4 hf1 with ⟨hcs, _⟩ | ⟨ad, len, cap, B, hcs, _, hl, hm, _, hcell⟩
    · simp [Value.cells] at hcs
      exact ⟨fun _ => false, by omega, fun i hi => by omega⟩
    · simp [Value.cells] at hcs
      obtain ⟨rfl, rfl, rfl⟩ := hcs
      refine ⟨B, by omega, fun i hi => ?_⟩
      obtain ⟨b, o, spot⟩ := ad
      have hs : spot = none := by simpa [Addr.add] using World.cell?_spot (hcell 0 (by omega))
      subst hs
      exact ⟨b, o, rfl, by have := hcell i (by omega); rwa [addr_add] at this⟩
  obtain ⟨B1, hm1, hc1⟩ := hB1
  unfold maxLen at hm1
  clear hval0 hA hA0
  refine (FourAtomic_any a0 b0.1 b0.2 s1 n1 c1 B1 hm1 W hc1).mono fun e W' ⟨he, hb⟩ => ?_
  subst he
  exact ⟨_, rfl, law_post (t := 4) law_laid (by rw [Try.params3]; intro t ht; simp only [List.mem_cons, List.not_mem_nil, or_false] at ht; rcases ht with rfl | rfl <;> exact ⟨by kernel_rfl, of_decide_eq_true (by kernel_rfl)⟩) (by kernel_rfl) Try.underlying4 hW' rfl rfl rfl rfl hb⟩

theorem fourAtomic_holds : Rows.FourAtomicSaid :=
  OpenClaim.holds_of_wide 3 Try.f3 rfl rfl rfl rfl rfl rfl rfl ⟨rfl, rfl, rfl, rfl, rfl⟩ rfl rfl rfl rfl rfl (by kernel_rfl) Try.func3 (by kernel_rfl)
    (of_decide_eq_true (by kernel_rfl)) (by unfold Func.isWrapper; first | (rw [if_pos (by decide +kernel)]; kernel_rfl) | (rw [if_neg (by decide +kernel)]; exact ⟨rfl, rfl⟩))
    (fun os started H enc _ => fourAtomic_lifted os started H enc)
#print axioms fourAtomic_holds
end Go.Proofs.Ytpkjffiajidfcaa
