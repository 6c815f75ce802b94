/- What every law of this seat hands in, but for its walk: it returned true, and left all that was there as it was. -/
import Derived.Test.YtpkjffiajidfcaaRows
import Derived.ProofKit
import Derived.OpenShut
import Derived.Carry
import Derived.Deep.Grids
import Derived.Test.YtpkjffiajidfcaaG11
import Derived.Test.YtpkjffiajidfcaaG10
import Derived.Deep.DeepCutAuto
import Derived.Deep.CutBlock
set_option linter.all false
set_option linter.unusedVariables false
set_option linter.unusedSimpArgs false

namespace Go.Proofs.Ytpkjffiajidfcaa
open Go.ChangeShapes Go.WideShapes Go.ChangeAt Go.RowKit

/-- The arguments read behind the call as they read before it. -/
theorem trodAll_behind {H : Type} {enc : TypeId × Value → H} {P : Program} (hl : laidOutB P = true) {W W' : World} (hb : Below W.heap.size W W') :
    ∀ {ts : List TypeId} {vs : List Value} {ds : List (DataW H)} {ps : List MemPlace}, (∀ t, t ∈ ts → P.readableRec t = true ∧ t < P.types.size) → DataW.TrodAll enc P W 0 (fun _ => true) true ts vs ds ps →
      (∀ p, p ∈ ps → p.block < W.heap.size) → DataW.TrodAll enc P W' 0 (fun b => decide (b < W.heap.size)) true ts vs ds ps
  | [], _, _, _, _, h, _ => by
    obtain ⟨rfl, rfl, rfl⟩ := trodAll_nil h
    exact trodAll_mk0
  | t :: ts, _, _, _, hr, h, hp => by
    obtain ⟨v, vs, d, ds, p, q, rfl, rfl, rfl, h1, h2⟩ := trodAll_cons h
    exact trodAll_cons_mk (Below.trod hl (hr t (by simp)).1 (hr t (by simp)).2 h1 hb (fun x hx => hp x (by simp [hx]))) (trodAll_behind hl hb (fun t ht => hr t (by simp [ht])) h2 (fun x hx => hp x (by simp [hx])))

/-- The row's end. -/
theorem law_post {H : Type} {enc : TypeId × Value → H} {P : Program} {f : Func} {s : ChangeSpec} {apart : Bool} {W W' : World} {args : Array Value} {ds gs : List (DataW H)} {before : List MemPlace} {t : TypeId}
    (hl : laidOutB P = true) (hr : ∀ t, t ∈ f.params.toList → P.readableRec t = true ∧ t < P.types.size) (hf : f.resultTypes = #[t]) (ht : P.underlying t = some .bool)
    (hW : DataW.Whole enc P f.params.toList s.vars apart W args.toList ds gs before) (hv : s.vars = []) (h1 : (s.fn H (ds ++ gs)).results = [.lit (.bool true)]) (h2 : (s.fn H (ds ++ gs)).args = ds) (h3 : (s.fn H (ds ++ gs)).vars = [])
    (hb : Below W.heap.size W W') : s.post enc P f apart true false false W args (.bool true) W' := by
  have hlt := fun (p : MemPlace) (hp : p ∈ before) => hW.lt p hp
  have hW0 := hW
  obtain ⟨p, q, hA, hV, he, _, _⟩ := hW
  rw [hv] at hV
  obtain ⟨rfl, rfl⟩ := trodVars_none hV
  simp only [List.append_nil] at he
  subst he
  refine ⟨ds, [], before, [], before, [], hW0, ?_, ?_, ?_, World.keptBut_mono (fun x hx => ⟨hx, .inr (.inl hx)⟩) (hb.frame (· ∈ before)), fun a => by cases a⟩
  · rw [h1, hf]
    exact trodAll_cons_mk (shut_bool ht _) trodAll_mk0
  · rw [h2]
    exact trodAll_behind hl hb hr hA hlt
  · rw [h3, hv]
    exact rfl

theorem law_own : ownKnob Try.prog.godebug = none := by kernel_rfl
theorem law_c4 : Try.prog.cellsOf 4 = 1 := by kernel_rfl
theorem law_laid : laidOutB Try.prog = true := by kernel_rfl
end Go.Proofs.Ytpkjffiajidfcaa

/- FourAtomic of the law, walked. -/
namespace Go.Proofs.Ytpkjffiajidfcaa
open Go.RowKit

/-- Where a play begins. -/
def PSt.start (W : Int) : PSt := ⟨List.replicate (13 + 4 * W).toNat 0, ⟨7, 0, 0, 0, false⟩, ⟨6, 0, 0, 0, 0, []⟩, 0, 0, 0, 0, 0, 0, 0, 0⟩

theorem PInv.start {W : Int} (hW : 1 ≤ W) : PInv W (PSt.start W) := by
  have z : ∀ i, rd (List.replicate (13 + 4 * W).toNat 0) i = 0 := rd_zero _
  refine ⟨by simp [PSt.start]; omega, MsOk.zero _, ⟨Int.le_refl 0, (by decide : (0 : Int) ≤ 4294967295)⟩, ?_, fun _ _ => 0, ?_⟩
  · show Core (rd (List.replicate (13 + 4 * W).toNat 0) 1) (rd (List.replicate (13 + 4 * W).toNat 0) _) (slotf (List.replicate (13 + 4 * W).toNat 0)) 7 0 0 6 0 0
    rw [z, z]
    exact { lat01 := .inl rfl, rdg01 := .inl rfl, slot01 := fun p _ => by unfold slotf; rw [z]; exact .inl rfl, wp01 := .inl rfl, wi01 := .inl rfl, rp01 := .inl rfl, ri01 := .inl rfl, stl := by omega, rsl := by omega, A := by omega, I := by omega, B := by omega, D := by omega, C := by omega }
  · show Cont W (rd (List.replicate (13 + 4 * W).toNat 0) 1) (slotf (List.replicate (13 + 4 * W).toNat 0)) (buff W (List.replicate (13 + 4 * W).toNat 0)) (fun _ _ => 0) 7 0 0 0 false 6 0 0 0 [] 0 0 0 0 0 0 0 0
    exact { holds := fun p j _ _ _ => ⟨Int.le_refl _, fun _ => by unfold buff; exact z _, by omega, by omega⟩, part3 := by omega, part4 := by omega, i0 := by omega, i3 := by omega, i4 := by omega, s5 := by omega, s6 := by omega, cur := rfl, le := fun _ _ _ => Int.le_refl _, cnt5 := by omega, cnt6 := by omega, cnt7 := fun _ => ⟨rfl, rfl⟩, st3 := by omega, st4 := by omega, st5 := by omega, st6 := by omega, n0 := by omega, n1 := by omega, mkd := by omega, l0 := by omega, rA := by omega, r6 := fun _ => Int.le_refl _, r12 := by omega, r3 := by omega, r45 := by omega, x4 := by omega, x5 := by omega, o4 := by omega, o5 := by omega }

/-- What a law leaves: true, and all that was there as it was. -/
def LawTo (w : World) (e : Ending) (w' : World) : Prop := e = .returned (.bool true) ∧ Below w.heap.size w w'

/-- A play that has begun in memory of its own. -/
def PlayOn (base : Nat) (c : CfgV) (pl bm bw : Nat) (W per : Int) (k : Int) (w wr : World) : Prop :=
  ∃ wb wbd cap rb da dc P, PlayAt wr base c pl bm bw wb wbd cap rb da dc W per P ∧ PInv W P ∧ P.n ≤ k ∧ Below base w wr

set_option maxRecDepth 100000 in
set_option maxHeartbeats 8000000 in
theorem FourAtomic_any (u : Int) (hu0 : 0 ≤ u) (hu1 : u ≤ 255) (sa : Option Addr) (n c : Nat) (B : Nat → Bool) (hn : n ≤ 9223372036854775807) (w : World)
    (hc : ∀ i, i < n → ∃ b o, sa = some ⟨b, o, none⟩ ∧ w.cell? ⟨b, o + i, none⟩ = some (.bool (B i))) :
    Calls Try.prog 3 #[.int .u8 u, .slice sa n c] w (LawTo w) := by
  have Hc := Lib.hid hc
  clear hc
  by_cases hbig : n > 600
  · have hb1 : (600 : Int) < (n : Int) := by omega
    go_enter Try.func3, Try.ntmps3
    go_wp2_with (first | (go_at_call 7; (with_reducible refine (wakes_any _).mono ?_); rintro e w0 ⟨rfl, hk0⟩) | (fail))
    go_ret
    exact ⟨rfl, below_keeps (Below.refl _ _) hk0 (by simp) (Nat.le_refl _)⟩
  · have hb1 : ¬ (600 : Int) < (n : Int) := by omega
    have hu4 : u.tmod 4 = u % 4 := Int.tmod_eq_emod_of_nonneg hu0
    have hm0 := Int.emod_nonneg u (show (4 : Int) ≠ 0 by decide)
    have hm1 := Int.emod_lt_of_pos u (show (0 : Int) < 4 by decide)
    have hw1 : IntKind.i64.wrap u = u := wrap_i64 (by omega) (by omega)
    have hw2 : IntKind.i64.wrap (u % 4) = u % 4 := wrap_i64 (by omega) (by omega)
    have hw3 : IntKind.i64.wrap (1 + u % 4) = 1 + u % 4 := wrap_i64 (by omega) (by omega)
    go_enter Try.func3, Try.ntmps3
    go_wp2_with (first | (go_at_call 7; (with_reducible refine (wakes_any _).mono ?_); rintro e w0 ⟨rfl, hk0⟩) | (go_at_call 8; (with_reducible refine (two_any (1 + u % 4) 5 _ (by omega) (by omega) (by omega) (by omega)).mono ?_); rintro e w1 ⟨pb, cb, f0, f1, rfl, hk1, hC1, hbl1⟩; have hacc := two_acc pb cb f0 f1 (1 + u % 4) 5 (by omega) (by omega) (by omega) (by omega); have HC1 := Lib.hid hC1; clear hC1; have HK1 := Lib.hid (hk0.trans hk1 : Keeps [] w w1); have hz1 := hk1.size; clear hk1; simp only [CfgV.cells]) | (go_at_call 10; (with_reducible refine (refSize_any (twoC pb cb f0 f1 (1 + u % 4) 5) hacc _ (HC1.out.kept (by (repeat' with_reducible (first | exact Keeps.refl _ _ | assumption | apply Keeps.drew | apply Keeps.drewN | apply Keeps.alloc))))).mono ?_); rintro e w2 ⟨rfl, hk2⟩; rw [two_b1]; have B1 : Blk w2 w1.heap.size (twoC pb cb f0 f1 (1 + u % 4) 5).cells 31 := Blk.keep (l := []) (by (repeat' (first | with_reducible (first | assumption | apply Blk.drew | (refine Blk.newAt ?_; first | rfl | (simp; done)) | apply Blk.alloc)))) hk2 (by simp); have HB1 := Lib.hid B1; clear B1) | (go_at_call 9; (with_reducible refine (New_at ((13 + 4 * (1 + u % 4)).toNat) _ (by omega) _ (by omega)).mono ?_); rintro e w3 ⟨bm, bw, rfl, hk3, hbm, hbw, hM3⟩; have B3 := HB1.out.keep hk3 (by simp); have C3 := B3.cell; have L3 := B3.lt; have HB3 := Lib.hid B3; clear B3; have HC3 := Lib.hid (HC1.out.kept (Keeps.trans (Keeps.trans (by (repeat' with_reducible (first | exact Keeps.refl _ _ | assumption | apply Keeps.drew | apply Keeps.drewN | apply Keeps.alloc))) hk2) hk3)); have HM3 := Lib.hid hM3; clear hM3; have HK3 := Lib.hid (Keeps.trans HK1.out (Keeps.trans (Keeps.trans (by (repeat' with_reducible (first | exact Keeps.refl _ _ | assumption | apply Keeps.drew | apply Keeps.drewN | apply Keeps.alloc))) hk2) hk3) : Keeps [] w w3)) | (fail))
    have hs3 := HK3.out.size
    have hz0 := hk0.size
    have hz2 := hk2.size
    simp at hz2
    have HP0 : Hid (PlayOn w.heap.size (twoC pb cb f0 f1 (1 + u % 4) 5) w3.heap.size bm bw (1 + u % 4) 5 0 w (w3.alloc (.cells (plCells (twoC pb cb f0 f1 (1 + u % 4) 5) bm (.pointer none) (.pointer none) 0 0 0 0 0 0 0 0) 43))) := by
      refine Lib.hid ⟨0, 0, 0, 0, none, 0, PSt.start (1 + u % 4), ⟨Blk.new _ _ _, ⟨HM3.out.alloc _, HC3.out.alloc _, ?_, ⟨by omega, by omega, by omega⟩, ?_, ?_, fun a => absurd rfl a, fun a => absurd rfl a, fun a _ => absurd rfl a⟩⟩, PInv.start (by omega), Int.le_refl _, below_keeps (l := []) (Below.refl _ _) (HK3.out.alloc _) (by simp) (Nat.le_refl _)⟩
      · intro x hx; have := two_blk HC3.out x hx; simp; omega
      · have := HM3.out.hm.lt; have := HM3.out.hw.lt; omega
      · intro x hx
        have a1 := two_blk HC3.out x hx
        have a2 := two_blk HC1.out x hx
        omega
    clear hbl1 hk0 hk2 hk3 C3 L3 HB3 HC1 HC3 HM3 HK1 HK3 HB1 hbm hbw hs3 hz1 hz2
    go_loopw [39] (fun x wr => ∃ i : Nat, i ≤ n ∧ x = .int .i64 i ∧ PlayOn w.heap.size (twoC pb cb f0 f1 (1 + u % 4) 5) w3.heap.size bm bw (1 + u % 4) 5 i w wr) (fun x _ => n - (intOf x).toNat)
    case atStart => exact ⟨0, by omega, rfl, HP0.out⟩
    case round =>
      obtain ⟨i, hi, rfl, wb, wbd, cap, rb, da, dc, P, hP, hI, hPn, hB⟩ := hrel
      have HP := Lib.hid hP
      have HI := Lib.hid hI
      have HB := Lib.hid hB
      have hbs := hB.size
      clear hP hI hB
      by_cases hin : i < n
      · obtain ⟨ab, ao, rfl, hcl⟩ := Hc.out i hin
        have hcr : wr.cell? ⟨ab, ao + i, none⟩ = some (.bool (B i)) := (HB.out.cell (p := ⟨ab, ao + i, none⟩) (lt_of_cell hcl)).trans hcl
        have hi1 : (i : Int) < (n : Int) := by omega
        have hi0 : (0 : Int) ≤ (i : Int) := Int.natCast_nonneg _
        have hi6 : (i : Int) ≤ 600 := by omega
        clear hcl
        cases hBi : B i
        · rw [hBi] at hcr
          go_wp2_with (first | (go_at_call 12; (with_reducible refine (read_any w.heap.size w3.heap.size pb cb f0 f1 bm bw wb wbd cap rb da dc (1 + u % 4) 5 _ P _ HP.out hbs HI.out (by omega) (by omega) hacc (by omega) (by omega) (by omega)).mono ?_); rintro e w5 ⟨rb', da', dc', Q, rfl, hb5, hP5, hI5, hQn, hQs⟩; have HR5 := Lib.hid (And.intro hb5 (And.intro hP5 hI5)); clear hb5 hP5 hI5) | (fail))
          go_roundw
          case rel => exact ⟨i + 1, by omega, by go_num, wb, wbd, cap, rb', da', dc', Q, HR5.out.2.1, HR5.out.2.2, by omega, HB.out.trans HR5.out.1⟩
          case measure => simp [intOf]; omega
        · rw [hBi] at hcr
          go_wp2_with (first | (go_at_call 11; (with_reducible refine (write_any w.heap.size w3.heap.size pb cb f0 f1 bm bw wb wbd cap rb da dc (1 + u % 4) 5 _ P _ HP.out hbs HI.out (by omega) (by omega) hacc (by omega) (by omega) (by omega)).mono ?_); rintro e w5 ⟨wb', wbd', cap', rfl, hb5, hP5⟩; have HR5 := Lib.hid (And.intro hb5 hP5); clear hb5 hP5) | (fail))
          go_roundw
          case rel =>
            obtain ⟨q1, q2, q3⟩ := HI.out.wnew
            exact ⟨i + 1, by omega, by go_num, wb', wbd', cap', rb, da, dc, _, HR5.out.2, (q1.write (by omega) (by omega) q2 _ hi0 (by omega) (by omega)).1, by show P.wnew.n ≤ _; omega, HB.out.trans HR5.out.1⟩
          case measure => simp [intOf]; omega
      · obtain rfl : i = n := by omega
        have hi1 : ¬ (i : Int) < (i : Int) := by omega
        go_wp2_with fail
        go_ret
        exact ⟨rfl, HB.out⟩

end Go.Proofs.Ytpkjffiajidfcaa

/- SameAnswer, SameDid of portholeref11, at answers that are the same. -/
namespace Go.Proofs.Ytpkjffiajidfcaa
open Go.RowKit

/-- A slice reads as the first n words of a list. -/
def SliceIs (w : World) (a : Option Addr) (n : Nat) (xs : List Int) : Prop := ∀ j : Nat, j < n → ∃ b o, a = some ⟨b, o, none⟩ ∧ w.cell? ⟨b, o + j, none⟩ = some (.int .u32 (rd xs j))

theorem SliceIs.keep {w w' : World} {a : Option Addr} {n : Nat} {xs : List Int} {l : List Nat} (h : SliceIs w a n xs) (k : Keeps l w w') (hl : ∀ x, blockOf a = some x → x ∉ l) : SliceIs w' a n xs := by
  intro j hj
  obtain ⟨b, o, rfl, hc⟩ := h j hj
  exact ⟨b, o, rfl, (k.cell (lt_of_cell hc) (hl b rfl)).trans hc⟩

theorem SliceIs.nil (w : World) (a : Option Addr) (xs : List Int) : SliceIs w a 0 xs := fun j hj => absurd hj (Nat.not_lt_zero j)

theorem SliceIs.ofRow {w : World} {base : Nat} {t : TypeId} {a : Option Addr} {c : Nat} {xs : List Int} (h : w.ownsRow base t 1 (.slice a xs.length c) xs.length (xs.map (Value.int .u32))) : SliceIs w a xs.length xs := by
  intro j hj
  rcases h.2 with ⟨_, e2⟩ | ⟨g, gc, cur, e1, _⟩
  · omega
  · obtain ⟨rfl, rfl⟩ : a = some ⟨g, 0, none⟩ ∧ c = gc := by simpa using e1
    refine ⟨g, 0, rfl, ?_⟩
    have q := h.cells (g := g) rfl j (.int .u32 (rd xs j)) (by simp [rd, hj])
    rw [addr_add] at q
    exact q

set_option maxRecDepth 100000 in
set_option maxHeartbeats 4000000 in
theorem SameAnswer_yes (code count : Int) (valid : Bool) (a1 a2 : Option Addr) (n c1 c2 : Nat) (xs : List Int) (hn : n ≤ 140737488351232) (w : World) (h1 : SliceIs w a1 n xs) (h2 : SliceIs w a2 n xs) :
    Calls Try.prog 17 #[.agg #[.int .i64 code, .slice a1 n c1, .bool valid, .int .i64 count], .agg #[.int .i64 code, .slice a2 n c2, .bool valid, .int .i64 count]] w (Says (.bool true) w) := by
  have H1 := Lib.hid h1
  have H2 := Lib.hid h2
  have e1 : (code != code) = false := by simp
  have e2 : (valid != valid) = false := by simp
  have e3 : (count != count) = false := by simp
  have e4 : ((n : Int) != (n : Int)) = false := by simp
  clear h1 h2
  go_enter Try.func17, Try.ntmps17
  go_wp2_with fail
  have B2 := Lib.hid ((Blk.new w #[.int .i64 code, .slice a1 n c1, .bool valid, .int .i64 count] 51).alloc (.cells #[.int .i64 code, .slice a2 n c2, .bool valid, .int .i64 count] 51))
  have B3 := Lib.hid (Blk.newAt (w := w.alloc (.cells #[.int .i64 code, .slice a1 n c1, .bool valid, .int .i64 count] 51)) (vs := #[.int .i64 code, .slice a2 n c2, .bool valid, .int .i64 count]) (t := 51) (n := w.heap.size + 1) (by simp))
  have K1 := Lib.hid (((Keeps.refl [] w).alloc (.cells #[.int .i64 code, .slice a1 n c1, .bool valid, .int .i64 count] 51)).alloc (.cells #[.int .i64 code, .slice a2 n c2, .bool valid, .int .i64 count] 51))
  generalize (w.alloc (.cells #[.int .i64 code, .slice a1 n c1, .bool valid, .int .i64 count] 51)).alloc (.cells #[.int .i64 code, .slice a2 n c2, .bool valid, .int .i64 count] 51) = w1 at *
  go_loopw [5] (fun x wr => ∃ i : Nat, i ≤ n ∧ x = .int .i64 i ∧ Keeps [] w1 wr) (fun x _ => n - (intOf x).toNat)
  case atStart => exact ⟨0, by omega, rfl, Keeps.refl _ _⟩
  case round =>
    obtain ⟨i, hi, rfl, hk⟩ := hrel
    have c2 := (B2.out.keep hk (by simp)).cell
    have c3 := (B3.out.keep hk (by simp)).cell
    have HK := Lib.hid hk
    clear hk
    have hi0 : (0 : Int) ≤ (i : Int) := Int.natCast_nonneg _
    by_cases hin : i < n
    · have hi1 : (i : Int) < (n : Int) := by omega
      obtain ⟨b1, o1, rfl, hc1⟩ := H1.out i hin
      obtain ⟨b2, o2, rfl, hc2⟩ := H2.out i hin
      have d1 : wr.cell? ⟨b1, o1 + i, none⟩ = some (.int .u32 (rd xs i)) := (HK.out.cell (Nat.lt_of_lt_of_le (lt_of_cell hc1) K1.out.size) (by simp)).trans ((K1.out.cell (lt_of_cell hc1) (by simp)).trans hc1)
      have d2 : wr.cell? ⟨b2, o2 + i, none⟩ = some (.int .u32 (rd xs i)) := (HK.out.cell (Nat.lt_of_lt_of_le (lt_of_cell hc2) K1.out.size) (by simp)).trans ((K1.out.cell (lt_of_cell hc2) (by simp)).trans hc2)
      have e5 : (rd xs i != rd xs i) = false := by simp
      clear hc1 hc2
      go_upto_region 6 with fail
      go_quiet (fail)
      go_wp2_with fail
      go_roundw
      case rel => exact ⟨i + 1, by omega, by go_num, HK.out.drewN⟩
      case measure => simp [intOf]; omega
    · obtain rfl : i = n := by omega
      have hi1 : ¬ (i : Int) < (i : Int) := by omega
      go_wp2_with fail
      go_ret
      exact ⟨rfl, K1.out.trans HK.out⟩


/-- A Did whose words lie in a slice. -/
def didAt (d : DidV) (a : Option Addr) (n c : Nat) : Array Value := #[.bool d.done, .int .i64 d.code, .slice a n c, .bool d.valid, .int .i64 d.count, .bool d.mark, .bool d.ring, .bool d.stamped, .int .i64 d.buffer]

set_option maxRecDepth 100000 in
set_option maxHeartbeats 4000000 in
theorem SameDid_yes (z0 z5 z7 z8 z9 : Bool) (z1 z6 z10 : Int) (a1 a2 : Option Addr) (n c1 c2 : Nat) (xs : List Int) (hn : n ≤ 140737488351232) (w : World) (h1 : SliceIs w a1 n xs) (h2 : SliceIs w a2 n xs) :
    Calls Try.prog 18 #[.agg #[.bool z0, .int .i64 z1, .slice a1 n c1, .bool z5, .int .i64 z6, .bool z7, .bool z8, .bool z9, .int .i64 z10], .agg #[.bool z0, .int .i64 z1, .slice a2 n c2, .bool z5, .int .i64 z6, .bool z7, .bool z8, .bool z9, .int .i64 z10]] w (Says (.bool true) w) := by
  have H1 := Lib.hid h1
  have H2 := Lib.hid h2
  have e1 : (z0 == z0) = true := by simp
  have e2 : (z7 == z7) = true := by simp
  have e3 : (z8 == z8) = true := by simp
  have e4 : (z9 == z9) = true := by simp
  have e5 : (z10 == z10) = true := by simp
  clear h1 h2
  go_enter Try.func18, Try.ntmps18
  go_wp2_with (first | (go_at_call 17; (with_reducible refine (SameAnswer_yes z1 z6 z5 a1 a2 n c1 c2 xs hn _ (H1.out.keep (l := []) ?_ (by simp)) (H2.out.keep (l := []) ?_ (by simp))).mono ?_); (repeat' with_reducible (first | exact Keeps.refl _ _ | assumption | apply Keeps.drew | apply Keeps.drewN | apply Keeps.alloc)); (repeat' with_reducible (first | exact Keeps.refl _ _ | assumption | apply Keeps.drew | apply Keeps.drewN | apply Keeps.alloc)); rintro e w5 ⟨rfl, hk5⟩) | (fail))
  go_ret
  exact ⟨rfl, Keeps.trans (by (repeat' with_reducible (first | exact Keeps.refl _ _ | assumption | apply Keeps.drew | apply Keeps.drewN | apply Keeps.alloc))) hk5⟩

end Go.Proofs.Ytpkjffiajidfcaa

/- A read with no write between: what it finds (plain). -/
namespace Go.Proofs.Ytpkjffiajidfcaa

/-- What a read would find: the pair, the buffer, its length word, how many words, the words. -/
def sP (ms : List Int) : Int := rd ms 1 % 2
def sI (ms : List Int) : Int := rd ms (1 + 1 + sP ms).toNat % 2
def sL (W : Int) (ms : List Int) : Int := rd ms (bufAt 1 W (sP ms) (sI ms)).toNat
def sF (W : Int) (ms : List Int) : Int := if sL W ms ≤ W then sL W ms else W
def sX (W : Int) (ms : List Int) (k : Nat) : List Int := (List.range k).map fun (j : Nat) => rd ms (bufAt 1 W (sP ms) (sI ms) + 2 + (j : Int)).toNat

/-- Two memories that differ in the reading word alone. -/
structure Like (W : Int) (m0 ms : List Int) : Prop where
  len : (ms.length : Int) = 13 + 4 * W
  same : ∀ a : Nat, (a : Int) ≠ 12 + 4 * W → rd ms a = rd m0 a
  ok : MsOk ms

structure RI (W : Int) (m0 : List Int) (j : Nat) (q : RSt) : Prop where
  st : q.stage ≤ 5
  j4 : q.stage ≤ 4 → j = q.stage ∧ q.xs = []
  p1 : 1 ≤ q.stage → q.pair = sP m0
  i3 : 3 ≤ q.stage → q.index = sI m0
  l4 : 4 ≤ q.stage → 0 < sL W m0 ∧ q.left = sF W m0
  x5 : q.stage = 5 → j = 5 + q.xs.length ∧ q.xs = sX W m0 q.xs.length ∧ (q.xs.length : Int) < sF W m0
  s5 : q.stage = 5 → q.stamp = rd m0 (bufAt 1 W (sP m0) (sI m0) + 1).toNat
  bp : Bit q.pair
  bi : Bit q.index
  stamp : 0 ≤ q.stamp ∧ q.stamp ≤ 4294967295

theorem sP_bit (ms : List Int) : Bit (sP ms) := by unfold Bit sP; omega
theorem sI_bit (ms : List Int) : Bit (sI ms) := by unfold Bit sI; omega

theorem RI.start (W : Int) (m0 : List Int) : RI W m0 0 ⟨0, 0, 0, 0, 0, []⟩ :=
  ⟨by show 0 ≤ 5; omega, fun _ => ⟨rfl, rfl⟩, fun a => absurd a (show ¬ 1 ≤ 0 by omega), fun a => absurd a (show ¬ 3 ≤ 0 by omega), fun a => absurd a (show ¬ 4 ≤ 0 by omega), fun a => absurd a (show ¬ 0 = 5 by omega), fun a => absurd a (show ¬ 0 = 5 by omega), .inl rfl, .inl rfl, ⟨Int.le_refl 0, by decide⟩⟩

theorem RI.rok {W : Int} {m0 : List Int} {j : Nat} {q : RSt} (h : RI W m0 j q) : ROk W q := by
  have a := h.bp
  have b := h.bi
  unfold Bit at a b
  refine ⟨by omega, by omega, by omega, by omega, fun c => ?_, fun c => ?_, h.stamp.1, h.stamp.2⟩
  · have := (h.x5 c).2.2; have := (h.l4 (by omega)).2; omega
  · have := (h.l4 (by omega)).2; rw [this]; unfold sF; split <;> omega

theorem RI.small {W : Int} {m0 : List Int} {j : Nat} {q : RSt} (h : RI W m0 j q) (hW : W ≤ 16) : j < 40 := by
  by_cases c : q.stage = 5
  · have := h.x5 c
    have e : sF W m0 ≤ 16 := by unfold sF; split <;> omega
    omega
  · have := h.j4 (by have := h.st; omega); have := h.st; omega

/-- Where there are words, the last step is the (5 + words)-th. -/
theorem RI.last {W : Int} {m0 : List Int} {j : Nat} {q : RSt} (h : RI W m0 j q) (hL : 0 ≤ sF W m0) : (j : Int) ≤ 4 + sF W m0 := by
  by_cases c : q.stage = 5
  · have := h.x5 c; omega
  · have := h.j4 (by have := h.st; omega); have := h.st; omega

theorem Like.geo {W : Int} {m0 ms : List Int} (h : Like W m0 ms) (hW : 1 ≤ W) (hW' : W ≤ 16) : Geo 1 (12 + 4 * W) W ms := by
  have := h.len
  exact ⟨by omega, by omega, by omega, by omega, by omega, by omega⟩

theorem bufAt_lo {W p j : Int} (hW : 1 ≤ W) (hp : Bit p) (hj : Bit j) : 4 ≤ bufAt 1 W p j ∧ bufAt 1 W p j + 1 + W < 12 + 4 * W := by
  rcases hp with rfl | rfl <;> rcases hj with rfl | rfl <;> simp [bufAt] <;> omega

/-- What a step comes to. -/
inductive RStepTo (W per : Int) (m0 : List Int) (j : Nat) (q : RSt) (ms : List Int) (now : Int) : Prop where
  | going (hi : RI W m0 (j + 1) (rstep 1 (12 + 4 * W) W q ms).1) (hd : ∀ da dc, (rdid 1 W per q ms now da dc).done = false)
  | none (hl : sL W m0 = 0) (hx : (rstep 1 (12 + 4 * W) W q ms).1.xs = []) (hd : ∀ da dc, rdid 1 W per q ms now da dc = { done := true, code := 1, buffer := 1 + (2 * q.pair + q.index) })
  | found (k : Nat) (hj : j = 5 + k) (hst : q.stage = 5) (hk : (k : Int) + 1 = sF W m0) (hl : sL W m0 ≠ 0) (hx : (rstep 1 (12 + 4 * W) W q ms).1.xs = sX W m0 (k + 1)) (hd : ∀ da dc, rdid 1 W per q ms now da dc = { done := true, da := da, dn := k + 1, dc := dc, valid := decide (now - q.stamp ≤ per) })

theorem sX_succ (W : Int) (ms : List Int) (k : Nat) : sX W ms (k + 1) = sX W ms k ++ [rd ms (bufAt 1 W (sP ms) (sI ms) + 2 + k).toNat] := by
  simp [sX, List.range_succ]

theorem sX_len (W : Int) (ms : List Int) (k : Nat) : (sX W ms k).length = k := by simp [sX]

theorem RI.step {W : Int} {m0 ms : List Int} {j : Nat} {q : RSt} (h : RI W m0 j q) (hl : Like W m0 ms) (hW : 1 ≤ W) (per now : Int) :
    Like W m0 (rstep 1 (12 + 4 * W) W q ms).2 ∧ RStepTo W per m0 j q ms now := by
  obtain ⟨st, p, i, lf, sp, xs⟩ := q
  obtain ⟨hst, j4, p1, i3, l4, x5, s5, bp, bi, stamp⟩ := h
  dsimp only at hst j4 p1 i3 l4 x5 s5 bp bi stamp
  match st, hst with
  | 0, _ =>
    obtain ⟨rfl, rfl⟩ := j4 (by omega)
    refine ⟨hl, .going ⟨by show 1 ≤ 5; omega, fun _ => ⟨rfl, rfl⟩, fun _ => ?_, fun a => absurd a (show ¬ 3 ≤ 1 by omega), fun a => absurd a (show ¬ 4 ≤ 1 by omega), fun a => absurd a (show ¬ 1 = 5 by omega), fun a => absurd a (show ¬ 1 = 5 by omega), ?_, bi, stamp⟩ (fun _ _ => rfl)⟩
    · show rd ms 1 % 2 = rd m0 1 % 2
      rw [hl.same 1 (by omega)]
    · show Bit (rd ms 1 % 2)
      unfold Bit; omega
  | 1, _ =>
    obtain ⟨rfl, rfl⟩ := j4 (by omega)
    refine ⟨⟨by simpa [rstep] using hl.len, fun a ha => ?_, hl.ok.set (v := p) (by unfold Bit at bp; omega) (by unfold Bit at bp; omega) _⟩, .going ⟨by show 2 ≤ 5; omega, fun _ => ⟨rfl, rfl⟩, fun _ => p1 (by omega), fun a => absurd a (show ¬ 3 ≤ 2 by omega), fun a => absurd a (show ¬ 4 ≤ 2 by omega), fun a => absurd a (show ¬ 2 = 5 by omega), fun a => absurd a (show ¬ 2 = 5 by omega), bp, bi, stamp⟩ (fun _ _ => rfl)⟩
    show rd (ms.set (12 + 4 * W).toNat p) a = _
    rw [rd_set, if_neg (by omega)]
    exact hl.same a ha
  | 2, _ =>
    obtain ⟨rfl, rfl⟩ := j4 (by omega)
    have hp := p1 (by omega)
    refine ⟨hl, .going ⟨by show 3 ≤ 5; omega, fun _ => ⟨rfl, rfl⟩, fun _ => p1 (by omega), fun _ => ?_, fun a => absurd a (show ¬ 4 ≤ 3 by omega), fun a => absurd a (show ¬ 3 = 5 by omega), fun a => absurd a (show ¬ 3 = 5 by omega), bp, ?_, stamp⟩ (fun _ _ => rfl)⟩
    · show rd ms (1 + 1 + p).toNat % 2 = rd m0 (1 + 1 + sP m0).toNat % 2
      rw [hp, hl.same _ (by have := sP_bit m0; unfold Bit at this; omega)]
    · show Bit (rd ms (1 + 1 + p).toNat % 2)
      unfold Bit; omega
  | 3, _ =>
    obtain ⟨rfl, rfl⟩ := j4 (by omega)
    have hp := p1 (by omega)
    have hi := i3 (by omega)
    subst hp hi
    have lo := bufAt_lo hW (sP_bit m0) (sI_bit m0)
    have e0 : rd ms (bufAt 1 W (sP m0) (sI m0)).toNat = sL W m0 := hl.same _ (by omega)
    have pos : 0 ≤ sL W m0 := by rw [← e0]; exact (hl.ok _).1
    by_cases hz : sL W m0 = 0
    · have e : rstep 1 (12 + 4 * W) W ⟨3, sP m0, sI m0, lf, sp, []⟩ ms = (⟨6, sP m0, sI m0, lf, sp, []⟩, ms) := by simp [rstep, e0, hz]
      rw [e]
      exact ⟨hl, .none hz (by rw [e]) (fun _ _ => by simp [rdid, e0, hz])⟩
    · have e : rstep 1 (12 + 4 * W) W ⟨3, sP m0, sI m0, lf, sp, []⟩ ms = (⟨4, sP m0, sI m0, sF W m0, sp, []⟩, ms) := by simp [rstep, e0, hz, sF]
      rw [e]
      refine ⟨hl, .going (by rw [e]; exact ⟨by show 4 ≤ 5; omega, fun _ => ⟨rfl, rfl⟩, fun _ => rfl, fun _ => rfl, fun _ => ⟨by omega, rfl⟩, fun a => absurd a (show ¬ 4 = 5 by omega), fun a => absurd a (show ¬ 4 = 5 by omega), bp, bi, stamp⟩) (fun _ _ => by simp [rdid, e0, hz])⟩
  | 4, _ =>
    obtain ⟨rfl, rfl⟩ := j4 (by omega)
    have g := l4 (by omega)
    have hp := p1 (by omega)
    have hi := i3 (by omega)
    subst hp hi
    have lo := bufAt_lo hW (sP_bit m0) (sI_bit m0)
    refine ⟨hl, .going ⟨by show 5 ≤ 5; omega, fun a => absurd a (show ¬ 5 ≤ 4 by omega), fun _ => rfl, fun _ => rfl, fun _ => g, fun _ => ⟨rfl, rfl, ?_⟩, fun _ => hl.same (bufAt 1 W (sP m0) (sI m0) + 1).toNat (by omega), bp, bi, hl.ok _⟩ (fun _ _ => rfl)⟩
    show (0 : Int) < sF W m0
    unfold sF; split <;> omega
  | 5, _ =>
    have hp := p1 (by omega)
    have hi := i3 (by omega)
    have g := l4 (by omega)
    have x := x5 rfl
    subst hp hi
    have lo := bufAt_lo hW (sP_bit m0) (sI_bit m0)
    have fW : sF W m0 ≤ W := by unfold sF; split <;> omega
    have e0 : rd ms (bufAt 1 W (sP m0) (sI m0) + 2 + xs.length).toNat = rd m0 (bufAt 1 W (sP m0) (sI m0) + 2 + xs.length).toNat := hl.same _ (by omega)
    have ex : xs ++ [rd m0 (bufAt 1 W (sP m0) (sI m0) + 2 + xs.length).toNat] = sX W m0 (xs.length + 1) := by rw [sX_succ, ← x.2.1]
    obtain ⟨_, rfl⟩ := g
    by_cases more : (xs.length : Int) + 1 < sF W m0
    · have e : rstep 1 (12 + 4 * W) W ⟨5, sP m0, sI m0, sF W m0, sp, xs⟩ ms = (⟨5, sP m0, sI m0, sF W m0, sp, sX W m0 (xs.length + 1)⟩, ms) := by simp [rstep, e0, ex, more]
      rw [e]
      refine ⟨hl, .going (by rw [e]; exact ⟨by show 5 ≤ 5; omega, fun a => absurd a (show ¬ 5 ≤ 4 by omega), fun _ => rfl, fun _ => rfl, fun _ => ⟨by omega, rfl⟩, fun _ => ⟨by rw [sX_len]; omega, by rw [sX_len], by rw [sX_len]; omega⟩, fun _ => s5 rfl, bp, bi, stamp⟩) (fun _ _ => by simp [rdid, more])⟩
    · have e : rstep 1 (12 + 4 * W) W ⟨5, sP m0, sI m0, sF W m0, sp, xs⟩ ms = (⟨6, sP m0, sI m0, sF W m0, sp, sX W m0 (xs.length + 1)⟩, ms) := by simp [rstep, e0, ex, more]
      rw [e]
      exact ⟨hl, .found xs.length (by omega) rfl (by omega) (by omega) (by rw [e]) (fun _ _ => by simp [rdid, more])⟩

end Go.Proofs.Ytpkjffiajidfcaa

/- FourAtomic of the law, walked. -/
namespace Go.Proofs.Ytpkjffiajidfcaa
open Go.RowKit

theorem below_to_keeps {base : Nat} {a w : World} (h : Below base a w) : Keeps ((List.range a.heap.size).filter (fun x => decide (base ≤ x))) a w :=
  ⟨h.os, h.tape, h.output, h.size, fun k hk hl => h.block k (by
    rcases Nat.lt_or_ge k base with c | c
    · exact c
    · exact absurd (by simp; exact ⟨hk, c⟩) hl)⟩

theorem not_in_range {base n x : Nat} (h : x < base) : x ∉ (List.range n).filter (fun x => decide (base ≤ x)) := by simp; omega

/-- The answer that a read gives, by the memory. -/
def ansN (W : Int) (m0 : List Int) : Nat := if sL W m0 = 0 then 0 else (sF W m0).toNat
def ansCode (W : Int) (m0 : List Int) : Int := if sL W m0 = 0 then 1 else 0
def ansValid (W : Int) (m0 : List Int) : Bool := !(sL W m0 == 0)

theorem Blk.four4 {w : World} {b : Nat} {t : TypeId} {x0 x1 x2 x3 y0 y1 y2 y3 : Value} (h : Blk w b #[x0, x1, x2, x3] t) : Blk ((((w.setCell ⟨b, 0, none⟩ y0).setCell ⟨b, 1, none⟩ y1).setCell ⟨b, 2, none⟩ y2).setCell ⟨b, 3, none⟩ y3) b #[y0, y1, y2, y3] t := by
  have e := (((h.set 0 y0).set 1 y1).set 2 y2).set 3 y3
  simpa only [List.setIfInBounds_toArray, List.set_cons_zero, List.set_cons_succ] using e

theorem fin_step {W per now : Int} {m0 ms : List Int} {j : Nat} {q : RSt} (h : RI W m0 j q) (hl : Like W m0 ms) (hW : 1 ≤ W) (hnow : now ≤ per) :
    Like W m0 (rstep 1 (12 + 4 * W) W q ms).2 ∧ ((RI W m0 (j + 1) (rstep 1 (12 + 4 * W) W q ms).1 ∧ ∀ da dc, (rdid 1 W per q ms now da dc).done = false) ∨
      ((rstep 1 (12 + 4 * W) W q ms).1.xs = sX W m0 (ansN W m0) ∧ ∃ buf, ∀ da dc, ∃ a' c', rdid 1 W per q ms now da dc = { done := true, code := ansCode W m0, da := a', dn := ansN W m0, dc := c', valid := ansValid W m0, buffer := buf } ∧ (a' = da ∨ (a' = none ∧ ansN W m0 = 0)))) := by
  have st := h.stamp
  obtain ⟨h1, h2⟩ := h.step hl hW per now
  refine ⟨h1, ?_⟩
  cases h2 with
  | going hi hd => exact .inl ⟨hi, hd⟩
  | none hz hx hd =>
    have e : ansN W m0 = 0 := by unfold ansN; rw [if_pos hz]
    refine .inr ⟨by rw [hx, e]; rfl, 1 + (2 * q.pair + q.index), fun da dc => ⟨none, 0, ?_, .inr ⟨rfl, e⟩⟩⟩
    rw [hd, e]
    unfold ansCode ansValid
    rw [if_pos hz, hz]
    rfl
  | found k hj hst hk hz hx hd =>
    have e : ansN W m0 = k + 1 := by unfold ansN; rw [if_neg hz]; omega
    refine .inr ⟨by rw [hx, e], 0, fun da dc => ⟨da, dc, ?_, .inl rfl⟩⟩
    rw [hd, e]
    unfold ansCode ansValid
    rw [if_neg hz]
    have e1 : decide (now - q.stamp ≤ per) = true := by simp; omega
    have e2 : (!(sL W m0 == 0)) = true := by simpa using hz
    rw [e1, e2]

/-- Behind k reads: the memory, the first answer. -/
def SLoop (nb bm bw fb : Nat) (W : Int) (m0 : List Int) (w7 : World) (k : Nat) (wr : World) : Prop :=
  ∃ ms code fa fn fc valid, Like W m0 ms ∧ MemAt wr bm bw ms ∧ Below nb w7 wr ∧ Blk wr fb #[.int .i64 code, .slice fa fn fc, .bool valid, .int .i64 0] 51 ∧
    (1 ≤ k → code = ansCode W m0 ∧ valid = ansValid W m0 ∧ fn = ansN W m0 ∧ SliceIs wr fa fn (sX W m0 fn) ∧ ∀ x, blockOf fa = some x → x < wr.heap.size ∧ x ≠ bw ∧ x ≠ fb)

/-- Within a read, behind j of its steps. -/
def SIn (bm bw rb db : Nat) (W per : Int) (m0 : List Int) (w9 : World) (j : Nat) (wi : World) : Prop :=
  ∃ q da dc ms d, RI W m0 j q ∧ Like W m0 ms ∧ MemAt wi bm bw ms ∧ RdAt wi rb da dc 1 (12 + 4 * W) W per q ∧ Blk wi db (DidV.cells d) 53 ∧ Keeps [bw, rb, db] w9 wi ∧ ∀ x, rown da dc q = some x → w9.heap.size ≤ x

set_option maxRecDepth 100000 in
set_option maxHeartbeats 8000000 in
theorem FourStays_any (u : Int) (hu0 : 0 ≤ u) (hu1 : u ≤ 255) (tk : Int) (ht0 : 0 ≤ tk) (ht1 : tk ≤ 255) (sa : Option Addr) (n c : Nat) (B : Nat → Bool) (hn : n ≤ 9223372036854775807) (w : World)
    (hc : ∀ i, i < n → ∃ b o, sa = some ⟨b, o, none⟩ ∧ w.cell? ⟨b, o + i, none⟩ = some (.bool (B i))) :
    Calls Try.prog 6 #[.int .u8 u, .slice sa n c, .int .u8 tk] w (LawTo w) := by
  have Hc := Lib.hid hc
  clear hc
  by_cases hbig : n > 300
  · have hb1 : (300 : Int) < (n : Int) := by omega
    go_enter Try.func6, Try.ntmps6
    go_wp2_with (first | (go_at_call 7; (with_reducible refine (wakes_any _).mono ?_); rintro e w0 ⟨rfl, hk0⟩) | (fail))
    go_ret
    exact ⟨rfl, below_keeps (Below.refl _ _) hk0 (by simp) (Nat.le_refl _)⟩
  · have hb1 : ¬ (300 : Int) < (n : Int) := by omega
    have hu4 : u.tmod 4 = u % 4 := Int.tmod_eq_emod_of_nonneg hu0
    have hm0 := Int.emod_nonneg u (show (4 : Int) ≠ 0 by decide)
    have hm1 := Int.emod_lt_of_pos u (show (0 : Int) < 4 by decide)
    have hw1 : IntKind.i64.wrap u = u := wrap_i64 (by omega) (by omega)
    have hw2 : IntKind.i64.wrap (u % 4) = u % 4 := wrap_i64 (by omega) (by omega)
    have hw3 : IntKind.i64.wrap (1 + u % 4) = 1 + u % 4 := wrap_i64 (by omega) (by omega)
    go_enter Try.func6, Try.ntmps6
    go_wp2_with (first | (go_at_call 7; (with_reducible refine (wakes_any _).mono ?_); rintro e w0 ⟨rfl, hk0⟩) | (go_at_call 8; (with_reducible refine (two_any (1 + u % 4) 1048576 _ (by omega) (by omega) (by omega) (by omega)).mono ?_); rintro e w1 ⟨pb, cb, f0, f1, rfl, hk1, hC1, hbl1⟩; have hacc := two_acc pb cb f0 f1 (1 + u % 4) 1048576 (by omega) (by omega) (by omega) (by omega); have HC1 := Lib.hid hC1; clear hC1; have HK1 := Lib.hid (hk0.trans hk1 : Keeps [] w w1); have hz1 := hk1.size; clear hk1; simp only [CfgV.cells]) | (go_at_call 10; (with_reducible refine (refSize_any (twoC pb cb f0 f1 (1 + u % 4) 1048576) hacc _ (HC1.out.kept (by (repeat' with_reducible (first | exact Keeps.refl _ _ | assumption | apply Keeps.drew | apply Keeps.drewN | apply Keeps.alloc))))).mono ?_); rintro e w2 ⟨rfl, hk2⟩; rw [two_b1]; have B1 : Blk w2 w1.heap.size (twoC pb cb f0 f1 (1 + u % 4) 1048576).cells 31 := Blk.keep (l := []) (by (repeat' (first | with_reducible (first | assumption | apply Blk.drew | (refine Blk.newAt ?_; first | rfl | (simp; done)) | apply Blk.alloc)))) hk2 (by simp); have HB1 := Lib.hid B1; clear B1) | (go_at_call 9; (with_reducible refine (New_at ((13 + 4 * (1 + u % 4)).toNat) _ (by omega) _ (by omega)).mono ?_); rintro e w3 ⟨bm, bw, rfl, hk3, hbm, hbw, hM3⟩; have B3 := HB1.out.keep hk3 (by simp); have C3 := B3.cell; have L3 := B3.lt; have HB3 := Lib.hid B3; clear B3; have HC3 := Lib.hid (HC1.out.kept (Keeps.trans (Keeps.trans (by (repeat' with_reducible (first | exact Keeps.refl _ _ | assumption | apply Keeps.drew | apply Keeps.drewN | apply Keeps.alloc))) hk2) hk3)); have HM3 := Lib.hid hM3; clear hM3; have HK3 := Lib.hid (Keeps.trans HK1.out (Keeps.trans (Keeps.trans (by (repeat' with_reducible (first | exact Keeps.refl _ _ | assumption | apply Keeps.drew | apply Keeps.drewN | apply Keeps.alloc))) hk2) hk3) : Keeps [] w w3)) | (fail))
    have hz0 := hk0.size
    have hz2 := hk2.size
    simp at hz2
    have hnb : w2.heap.size ≤ w3.heap.size := hk3.size
    have hcb := HB3.out.alloc (.cells (plCells (twoC pb cb f0 f1 (1 + u % 4) 1048576) bm (.pointer none) (.pointer none) 0 0 0 0 0 0 0 0) 43)
    have hk34 : Keeps [] w3 (w3.alloc (.cells (plCells (twoC pb cb f0 f1 (1 + u % 4) 1048576) bm (.pointer none) (.pointer none) 0 0 0 0 0 0 0 0) 43)) := (Keeps.refl _ _).alloc _
    have hC4 := HC3.out.kept hk34
    have hb4 : Below w.heap.size w (w3.alloc (.cells (plCells (twoC pb cb f0 f1 (1 + u % 4) 1048576) bm (.pointer none) (.pointer none) 0 0 0 0 0 0 0 0) 43)) := below_keeps (l := []) (Below.refl _ _) (HK3.out.alloc _) (by simp) (Nat.le_refl _)
    have hcl : ∀ x, x ∈ (twoC pb cb f0 f1 (1 + u % 4) 1048576).blocks → x < w2.heap.size := fun x hx => by have := two_blk HC1.out x hx; omega
    have hP0 : PlayOn w2.heap.size (twoC pb cb f0 f1 (1 + u % 4) 1048576) w3.heap.size bm bw (1 + u % 4) 1048576 0 (w3.alloc (.cells (plCells (twoC pb cb f0 f1 (1 + u % 4) 1048576) bm (.pointer none) (.pointer none) 0 0 0 0 0 0 0 0) 43)) (w3.alloc (.cells (plCells (twoC pb cb f0 f1 (1 + u % 4) 1048576) bm (.pointer none) (.pointer none) 0 0 0 0 0 0 0 0) 43)) := by
      refine ⟨0, 0, 0, 0, none, 0, PSt.start (1 + u % 4), ⟨Blk.new _ _ _, ⟨HM3.out.alloc _, hC4, ?_, ⟨by omega, by omega, by omega⟩, ?_, ?_, fun a => absurd rfl a, fun a => absurd rfl a, fun a _ => absurd rfl a⟩⟩, PInv.start (by omega), Int.le_refl _, Below.refl _ _⟩
      · intro x hx; have := two_blk HC3.out x hx; simp; omega
      · have := HM3.out.hm.lt; have := HM3.out.hw.lt; omega
      · intro x hx
        have a1 := two_blk HC3.out x hx
        have a2 := hcl x hx
        omega
    have hcn : w1.heap.size < w2.heap.size := by omega
    have hwn : w.heap.size ≤ w2.heap.size := by omega
    have hs34 : w2.heap.size ≤ (w3.alloc (.cells (plCells (twoC pb cb f0 f1 (1 + u % 4) 1048576) bm (.pointer none) (.pointer none) 0 0 0 0 0 0 0 0) 43)).heap.size := by simp; omega
    have hbm2 : w2.heap.size ≤ bm := by omega
    have hbw2 : w2.heap.size ≤ bw := by omega
    have HP0 := Lib.hid hP0
    have Hcb := Lib.hid hcb
    have HC4 := Lib.hid hC4
    have Hb4 := Lib.hid hb4
    have Hcl := Lib.hid hcl
    clear hbl1 hk0 hk2 hk3 C3 L3 HB3 HC1 HC3 HM3 HK1 HK3 HB1 hbm hbw hz0 hz1 hz2 hnb hcb hk34 hC4 hb4 hcl hP0
    generalize hpl : w3.heap.size = pl at *
    generalize w3.alloc (.cells (plCells (twoC pb cb f0 f1 (1 + u % 4) 1048576) bm (.pointer none) (.pointer none) 0 0 0 0 0 0 0 0) 43) = w4 at *
    generalize w2.heap.size = nb at *
    generalize w1.heap.size = ck at *
    clear hpl
    go_loopw [45] (fun x wr => ∃ i : Nat, i ≤ n ∧ x = .int .i64 i ∧ PlayOn nb (twoC pb cb f0 f1 (1 + u % 4) 1048576) pl bm bw (1 + u % 4) 1048576 i w4 wr) (fun x _ => n - (intOf x).toNat)
    case atStart => exact ⟨0, by omega, rfl, HP0.out⟩
    case round =>
      obtain ⟨i, hi, rfl, wb, wbd, cap, rb, da, dc, P, hP, hI, hPn, hB⟩ := hrel
      have HP := Lib.hid hP
      have HI := Lib.hid hI
      have HB := Lib.hid hB
      have hbs : nb ≤ wr.heap.size := Nat.le_trans hs34 hB.size
      clear hP hI hB
      by_cases hin : i < n
      · obtain ⟨ab, ao, rfl, hcl⟩ := Hc.out i hin
        have hbb := lt_of_cell hcl
        have hcr : wr.cell? ⟨ab, ao + i, none⟩ = some (.bool (B i)) := (HB.out.cell (p := ⟨ab, ao + i, none⟩) (by dsimp only; omega)).trans ((Hb4.out.cell (p := ⟨ab, ao + i, none⟩) hbb).trans hcl)
        have hi1 : (i : Int) < (n : Int) := by omega
        have hi0 : (0 : Int) ≤ (i : Int) := Int.natCast_nonneg _
        have hi6 : (i : Int) ≤ 300 := by omega
        clear hcl
        cases hBi : B i
        · rw [hBi] at hcr
          go_wp2_with (first | (go_at_call 12; (with_reducible refine (read_any nb pl pb cb f0 f1 bm bw wb wbd cap rb da dc (1 + u % 4) 1048576 _ P _ HP.out hbs HI.out (by omega) (by omega) hacc (by omega) (by omega) (by omega)).mono ?_); rintro e w5 ⟨rb', da', dc', Q, rfl, hb5, hP5, hI5, hQn, hQs⟩; have HR5 := Lib.hid (And.intro hb5 (And.intro hP5 hI5)); clear hb5 hP5 hI5) | (fail))
          go_roundw
          case rel => exact ⟨i + 1, by omega, by go_num, wb, wbd, cap, rb', da', dc', Q, HR5.out.2.1, HR5.out.2.2, by omega, HB.out.trans HR5.out.1⟩
          case measure => simp [intOf]; omega
        · rw [hBi] at hcr
          go_wp2_with (first | (go_at_call 11; (with_reducible refine (write_any nb pl pb cb f0 f1 bm bw wb wbd cap rb da dc (1 + u % 4) 1048576 _ P _ HP.out hbs HI.out (by omega) (by omega) hacc (by omega) (by omega) (by omega)).mono ?_); rintro e w5 ⟨wb', wbd', cap', rfl, hb5, hP5⟩; have HR5 := Lib.hid (And.intro hb5 hP5); clear hb5 hP5) | (fail))
          go_roundw
          case rel =>
            obtain ⟨q1, q2, q3⟩ := HI.out.wnew
            exact ⟨i + 1, by omega, by go_num, wb', wbd', cap', rb, da, dc, _, HR5.out.2, (q1.write (by omega) (by omega) q2 _ hi0 (by omega) (by omega)).1, by show P.wnew.n ≤ _; omega, HB.out.trans HR5.out.1⟩
          case measure => simp [intOf]; omega
      · obtain rfl : i = n := by omega
        have hi1 : ¬ (i : Int) < (i : Int) := by omega
        have HPO : Hid (PlayOn nb (twoC pb cb f0 f1 (1 + u % 4) 1048576) pl bm bw (1 + u % 4) 1048576 i w4 wr) := Lib.hid ⟨wb, wbd, cap, rb, da, dc, P, HP.out, HI.out, hPn, HB.out⟩
        clear HP HI HB hPn
        go_upto_region 17 with fail
        go_upto_block 2 with fail
        go_cut [] (fun wx => PlayOn nb (twoC pb cb f0 f1 (1 + u % 4) 1048576) pl bm bw (1 + u % 4) 1048576 i w4 wx)
        case first =>
          go_wp2_with fail
          go_loopw [58] (fun x wr => ∃ j : Nat, j ≤ 40 ∧ x = .int .i64 j ∧ PlayOn nb (twoC pb cb f0 f1 (1 + u % 4) 1048576) pl bm bw (1 + u % 4) 1048576 i w4 wr) (fun x _ => 40 - (intOf x).toNat)
          case atStart => exact ⟨0, by omega, rfl, HPO.out⟩
          case round =>
            obtain ⟨j, hj, rfl, wb, wbd, cap, rb, da, dc, P, hP, hI, hPn, hB⟩ := hrel
            have HP := Lib.hid hP
            have HI := Lib.hid hI
            have HB := Lib.hid hB
            have hbs : nb ≤ wr.heap.size := Nat.le_trans hs34 hB.size
            have hpc := hP.obj.cell
            clear hP hI hB
            by_cases hj4 : j < 40
            · have hj1 : (j : Int) < 40 := by omega
              have hj0 : (0 : Int) ≤ (j : Int) := Int.natCast_nonneg _
              by_cases hs : P.q.stage = 6
              · rw [radr_nil hs] at hpc
                go_wp2_with fail
                go_meet
                exact ⟨wb, wbd, cap, rb, da, dc, P, HP.out, HI.out, hPn, HB.out⟩
              · rw [radr_on hs] at hpc
                go_wp2_with (first | (go_at_call 12; (with_reducible refine (read_any nb pl pb cb f0 f1 bm bw wb wbd cap rb da dc (1 + u % 4) 1048576 300 P _ HP.out hbs HI.out (by omega) (by omega) hacc (by omega) (by omega) (by omega)).mono ?_); rintro e w5 ⟨rb', da', dc', Q, rfl, hb5, hP5, hI5, hQn, hQs⟩; have HR5 := Lib.hid (And.intro hb5 (And.intro hP5 hI5)); clear hb5 hP5 hI5) | (fail))
                go_roundw
                case rel => exact ⟨j + 1, by omega, by go_num, wb, wbd, cap, rb', da', dc', Q, HR5.out.2.1, HR5.out.2.2, by omega, HB.out.trans HR5.out.1⟩
                case measure => simp [intOf]; omega
            · obtain rfl : j = 40 := by omega
              have hj1 : ¬ ((40 : Nat) : Int) < 40 := by omega
              go_wp2_with fail
              go_meet
              exact ⟨wb, wbd, cap, rb, da, dc, P, HP.out, HI.out, hPn, HB.out⟩
        case rest =>
          obtain ⟨wb, wbd, cap, rb0, da0, dc0, P, hP, hI, hPn, hB⟩ := hcut
          have hlike : Like (1 + u % 4) P.ms P.ms := ⟨hI.len, fun _ _ => rfl, hI.ok⟩
          have hM := hP.parts.mem
          have hCc := hP.parts.cfg
          have hck := Hcb.out.keep (below_to_keeps hB) (not_in_range hcn)
          generalize P.ms = m0 at *
          clear hP hI hPn
          have HM := Lib.hid hM
          have HCc := Lib.hid hCc
          have Hck := Lib.hid hck
          have HB := Lib.hid hB
          have HL := Lib.hid hlike
          have hwcs := hB.size
          have hmm := hM.hm.lt
          have hmw := hM.hw.lt
          clear hM hCc hck hB hlike HPO HP0 Hcb HC4
          go_wp2_with fail
          have hF7 := Blk.new wc #[.int .i64 0, .slice none 0 0, .bool false, .int .i64 0] 51
          have k7 : Keeps [] wc (wc.alloc (.cells #[.int .i64 0, .slice none 0 0, .bool false, .int .i64 0] 51)) := (Keeps.refl _ _).alloc _
          have HF7 := Lib.hid hF7
          have HC7 := Lib.hid (HCc.out.kept k7)
          have Hck7 := Lib.hid (Hck.out.keep k7 (by simp))
          have HM7 := Lib.hid (HM.out.keep k7 (by simp) (by simp))
          have HB7 := Lib.hid (below_keeps HB.out k7 (by simp) hs34)
          have hsz7 : wc.heap.size < (wc.alloc (.cells #[.int .i64 0, .slice none 0 0, .bool false, .int .i64 0] 51)).heap.size := by simp
          have hfb : bm ≠ wc.heap.size ∧ bw ≠ wc.heap.size := by omega
          have hfn : nb ≤ wc.heap.size := by omega
          clear hF7 k7 HCc Hck HM HB
          generalize wc.alloc (.cells #[.int .i64 0, .slice none 0 0, .bool false, .int .i64 0] 51) = w7 at *
          generalize wc.heap.size = fb at *
          go_loopw [68] (fun x wr => ∃ k : Nat, k ≤ 3 ∧ x = .int .i64 k ∧ SLoop nb bm bw fb (1 + u % 4) m0 w7 k wr) (fun x _ => 3 - (intOf x).toNat)
          case atStart => exact ⟨0, by omega, rfl, m0, 0, none, 0, 0, false, HL.out, HM7.out, Below.refl _ _, HF7.out, fun a => absurd a (by omega)⟩
          case round =>
            obtain ⟨k, hk, rfl, ms, code, fa, fn, fc, valid, hl, hm, hb, hf, hs⟩ := hrel
            obtain ⟨wo, rfl⟩ : ∃ wo : World, wo = wr := ⟨_, rfl⟩
            have hbl := below_to_keeps hb
            have Hck8 := Lib.hid (Hck7.out.keep hbl (not_in_range hcn))
            have HC8 := Lib.hid (HC7.out.keep hbl (fun x a => not_in_range (Hcl.out x a)))
            have Hl := Lib.hid hl
            have Hm := Lib.hid hm
            have Hb := Lib.hid hb
            have Hf := Lib.hid hf
            have Hs := Lib.hid hs
            have hwo := hb.size
            have hk0 : (0 : Int) ≤ (k : Int) := Int.natCast_nonneg _
            have hckc := Hck8.out.cell
            clear hl hm hb hf hs hbl
            by_cases hk3 : k < 3
            · have hk1 : (k : Int) < 3 := by omega
              have hkt : 0 ≤ (k : Int) * tk ∧ (k : Int) * tk ≤ 510 := by
                have e : k = 0 ∨ k = 1 ∨ k = 2 := by omega
                rcases e with rfl | rfl | rfl <;> simp <;> omega
              have hw4 : IntKind.i64.wrap tk = tk := wrap_i64 (by omega) (by omega)
              have hw5 : IntKind.i64.wrap ((k : Int) * tk) = (k : Int) * tk := wrap_i64 (by omega) (by omega)
              have hw6 : IntKind.i64.wrap (300 + (k : Int) * tk) = 300 + (k : Int) * tk := wrap_i64 (by omega) (by omega)
              obtain ⟨hkt0, hkt1⟩ := hkt
              go_upto_block 6 with (first | (go_at_call 15; (with_reducible refine (NewReader_at (twoC pb cb f0 f1 (1 + u % 4) 1048576) 0 _ (by simp) (by simp) hacc _ HC8.out).mono ?_); rintro e w8 ⟨rb, rfl, hk8, hrb, hR8⟩; have hz8 := hk8.size; have HR8 := Lib.hid hR8; have HK8 := Lib.hid hk8; clear hR8 hk8) | (fail))
              have hD9 := Blk.new w8 #[.bool false, .int .i64 0, .slice none 0 0, .bool false, .int .i64 0, .bool false, .bool false, .bool false, .int .i64 0] 53
              have k9 : Keeps [] w8 (w8.alloc (.cells #[.bool false, .int .i64 0, .slice none 0 0, .bool false, .int .i64 0, .bool false, .bool false, .bool false, .int .i64 0] 53)) := (Keeps.refl _ _).alloc _
              have k89 := HK8.out.trans k9
              have hR9 := HR8.out.keep k9 (by simp)
              rw [two_b0, two_sz, show (1 : Int) + (11 + 4 * (1 + u % 4)) = 12 + 4 * (1 + u % 4) by omega] at hR9
              have hm9 := Hm.out.keep k89 (by simp) (by simp)
              have hsz9 : (w8.alloc (.cells #[.bool false, .int .i64 0, .slice none 0 0, .bool false, .int .i64 0, .bool false, .bool false, .bool false, .int .i64 0] 53)).heap.size = w8.heap.size + 1 := by simp
              have hfl := Hf.out.lt
              have hml := Hm.out.hm.lt
              have hml2 := Hm.out.hw.lt
              have hrl := HR8.out.lt
              have HR9 := Lib.hid hR9
              have HM9 := Lib.hid hm9
              have HD9 := Lib.hid hD9
              have HK9 := Lib.hid k89
              clear hR9 hm9 hD9 k9 k89 HK8 HR8
              generalize w8.alloc (.cells #[.bool false, .int .i64 0, .slice none 0 0, .bool false, .int .i64 0, .bool false, .bool false, .bool false, .int .i64 0] 53) = w9 at *
              generalize w8.heap.size = db at *
              have hne : bw ≠ rb ∧ bw ≠ db ∧ bm ≠ rb ∧ bm ≠ db ∧ rb ≠ db ∧ fb ≠ rb ∧ fb ≠ db := by omega
              have h9n : nb ≤ w9.heap.size := by omega
              go_wp2_with fail
              go_loopw [73] (fun x wi => ∃ j : Nat, j ≤ 40 ∧ x = .int .i64 j ∧ SIn bm bw rb db (1 + u % 4) 1048576 m0 w9 j wi) (fun x _ => 40 - (intOf x).toNat)
              case atStart => exact ⟨0, by omega, rfl, ⟨0, 0, 0, 0, 0, []⟩, none, 0, ms, {}, RI.start _ _, Hl.out, HM9.out, ⟨HR9.out, World.ownsRow_nil _ _ _ _⟩, HD9.out, Keeps.refl _ _, fun x hx => absurd hx (by simp [rown, Value.ownBlock])⟩
              case round =>
                obtain ⟨j, hj, rfl, q, da, dc, mi, ⟨y0, y1, y2, y3, y4, y5, y6, y7, y8, y9, y10⟩, hri, hli, hmi, hrd, hdb, hki, hoi⟩ := hrel
                have hj4 := hri.small (by omega : 1 + u % 4 ≤ 16)
                have hj1 : (j : Int) < 40 := by omega
                have hj0 : (0 : Int) ≤ (j : Int) := Int.natCast_nonneg _
                obtain ⟨hl2, hstep⟩ := fin_step (per := 1048576) (now := 300 + (k : Int) * tk) hri hli (by omega) (by omega)
                have hown : ∀ x, x ∈ (rb :: bw :: (Value.slice da q.xs.length dc).ownBlock.toList) → x = rb ∨ x = bw ∨ w9.heap.size ≤ x := by
                  intro x hx
                  simp only [List.mem_cons, Option.mem_toList] at hx
                  rcases hx with a | a | a
                  · exact .inl a
                  · exact .inr (.inl a)
                  · exact .inr (.inr (hoi x a))
                simp only [DidV.cells] at hdb
                have Hri := Lib.hid hri
                have Hli := Lib.hid hli
                have Hmi := Lib.hid hmi
                have Hrd := Lib.hid hrd
                have Hdb := Lib.hid hdb
                have Hki := Lib.hid hki
                have Hoi := Lib.hid hoi
                have Hl2 := Lib.hid hl2
                have Hown := Lib.hid hown
                have hwi := hki.size
                clear hri hli hmi hrd hdb hki hoi hl2 hown
                rcases hstep with ⟨hgo, hdone⟩ | ⟨hxs, buf, hfin⟩
                · have Hgo := Lib.hid hgo
                  have Hdn := Lib.hid hdone
                  clear hgo hdone
                  go_wp2_with (first | (go_at_call 16; (with_reducible refine (RStep_any rb bm bw dc da 1 (12 + 4 * (1 + u % 4)) (1 + u % 4) 1048576 q mi (300 + (k : Int) * tk) _ Hmi.out Hrd.out Hli.out.ok (Hli.out.geo (by omega) (by omega)) Hri.out.rok (by omega) (by omega) ?_ ?_ ?_ ?_ ?_).mono ?_); (omega); (omega); (intro e; have := Hoi.out rb e.symm; omega); (intro e; have := Hoi.out bm e.symm; omega); (intro e; have := Hoi.out bw e.symm; omega); rintro e w6 ⟨da6, dc6, rfl, hk6, hm6, hr6, ho6⟩; have hd6 := Hdn.out da6 dc6; have B6 := Hdb.out.keep hk6 (fun a => by rcases Hown.out _ a with b | b | b <;> omega); have C6 := B6.cell; have F6 := B6.frozen; have L6 := B6.lt; have H6 := Lib.hid (And.intro B6 (And.intro hk6 (And.intro hm6 (And.intro hr6 ho6)))); clear B6 hk6 hm6 hr6 ho6; (generalize rdid 1 (1 + u % 4) 1048576 q mi (300 + (k : Int) * tk) da6 dc6 = r at *; obtain ⟨z0, z1, z2, z3, z4, z5, z6, z7, z8, z9, z10⟩ := r; dsimp only at hd6; subst hd6; simp only [DidV.cells])) | (fail))
                  go_roundw
                  case rel =>
                    obtain ⟨B6, hk6, hm6, hr6, ho6⟩ := H6.out
                    have k10 : Keeps [db] w6 (((((((((w6.setCell ⟨db, 0, none⟩ (.bool false)).setCell ⟨db, 1, none⟩ (.int .i64 z1)).setCell ⟨db, 2, none⟩ (.slice z2 z3 z4)).setCell ⟨db, 3, none⟩ (.bool z5)).setCell ⟨db, 4, none⟩ (.int .i64 z6)).setCell ⟨db, 5, none⟩ (.bool z7)).setCell ⟨db, 6, none⟩ (.bool z8)).setCell ⟨db, 7, none⟩ (.bool z9)).setCell ⟨db, 8, none⟩ (.int .i64 z10)) := by (repeat' with_reducible (first | exact Keeps.refl _ _ | (refine Keeps.setCell ?_ (by simp) _)))
                    have ho7 : ∀ x, rown da6 dc6 (rstep 1 (12 + 4 * (1 + u % 4)) (1 + u % 4) q mi).1 = some x → w9.heap.size ≤ x := by
                      intro x hx
                      rcases ho6 with a | ⟨g, a, b⟩
                      · exact Hoi.out x (a.symm.trans hx)
                      · have := Option.some.inj (a.symm.trans hx); omega
                    refine ⟨j + 1, by omega, by go_num, _, da6, dc6, _, ⟨false, z1, z2, z3, z4, z5, z6, z7, z8, z9, z10⟩, Hgo.out, Hl2.out, hm6.keep k10 (by simp; omega) (by simp; omega), hr6.keep k10 (by simp; omega) (fun x hx => by have := ho7 x hx; simp; omega), B6.nine, (Hki.out.freshL hk6 (fun x hx => by rcases Hown.out x hx with b | b | b <;> simp [b])).freshL k10 (fun x hx => by simp at hx; simp [hx]), ho7⟩
                  case measure => simp [intOf]; omega
                · have Hxs := Lib.hid hxs
                  have Hfin := Lib.hid hfin
                  clear hxs hfin
                  go_upto_region 33 with (first | (go_at_call 16; (with_reducible refine (RStep_any rb bm bw dc da 1 (12 + 4 * (1 + u % 4)) (1 + u % 4) 1048576 q mi (300 + (k : Int) * tk) _ Hmi.out Hrd.out Hli.out.ok (Hli.out.geo (by omega) (by omega)) Hri.out.rok (by omega) (by omega) ?_ ?_ ?_ ?_ ?_).mono ?_); (omega); (omega); (intro e; have := Hoi.out rb e.symm; omega); (intro e; have := Hoi.out bm e.symm; omega); (intro e; have := Hoi.out bw e.symm; omega); rintro e w6 ⟨da6, dc6, rfl, hk6, hm6, hr6, ho6⟩; obtain ⟨a6, c6, hd6, ha6⟩ := Hfin.out da6 dc6; rw [hd6]; have B6 := Hdb.out.keep hk6 (fun a => by rcases Hown.out _ a with b | b | b <;> omega); have C6 := B6.cell; have F6 := B6.frozen; have L6 := B6.lt; have H6 := Lib.hid (And.intro B6 (And.intro hk6 (And.intro hm6 (And.intro hr6 (And.intro ho6 ha6))))); clear B6 hk6 hm6 hr6 ho6 hd6 ha6; simp only [DidV.cells]) | (fail))
                  obtain ⟨B6, hk6, hm6, hr6, ho6, ha6⟩ := H6.out
                  have B10 := B6.nine (y0 := .bool true) (y1 := .int .i64 (ansCode (1 + u % 4) m0)) (y2 := .slice a6 (ansN (1 + u % 4) m0) c6) (y3 := .bool (ansValid (1 + u % 4) m0)) (y4 := .int .i64 0) (y5 := .bool false) (y6 := .bool false) (y7 := .bool false) (y8 := .int .i64 buf)
                  have k10 : Keeps [db] w6 (((((((((w6.setCell ⟨db, 0, none⟩ (.bool true)).setCell ⟨db, 1, none⟩ (.int .i64 (ansCode (1 + u % 4) m0))).setCell ⟨db, 2, none⟩ (.slice a6 (ansN (1 + u % 4) m0) c6)).setCell ⟨db, 3, none⟩ (.bool (ansValid (1 + u % 4) m0))).setCell ⟨db, 4, none⟩ (.int .i64 0)).setCell ⟨db, 5, none⟩ (.bool false)).setCell ⟨db, 6, none⟩ (.bool false)).setCell ⟨db, 7, none⟩ (.bool false)).setCell ⟨db, 8, none⟩ (.int .i64 buf)) := by (repeat' with_reducible (first | exact Keeps.refl _ _ | (refine Keeps.setCell ?_ (by simp) _)))
                  have ho7 : ∀ x, rown da6 dc6 (rstep 1 (12 + 4 * (1 + u % 4)) (1 + u % 4) q mi).1 = some x → w9.heap.size ≤ x := by
                    intro x hx
                    rcases ho6 with a | ⟨g, a, b⟩
                    · exact Hoi.out x (a.symm.trans hx)
                    · have := Option.some.inj (a.symm.trans hx); omega
                  have hm10 := hm6.keep k10 (by simp; omega) (by simp; omega)
                  have hr10 := hr6.keep k10 (by simp; omega) (fun x hx => by have := ho7 x hx; simp; omega)
                  have k11 := (Hki.out.freshL hk6 (fun x hx => by rcases Hown.out x hx with b | b | b <;> simp [b])).freshL k10 (fun x hx => by simp at hx; simp [hx])
                  have hsl : SliceIs (((((((((w6.setCell ⟨db, 0, none⟩ (.bool true)).setCell ⟨db, 1, none⟩ (.int .i64 (ansCode (1 + u % 4) m0))).setCell ⟨db, 2, none⟩ (.slice a6 (ansN (1 + u % 4) m0) c6)).setCell ⟨db, 3, none⟩ (.bool (ansValid (1 + u % 4) m0))).setCell ⟨db, 4, none⟩ (.int .i64 0)).setCell ⟨db, 5, none⟩ (.bool false)).setCell ⟨db, 6, none⟩ (.bool false)).setCell ⟨db, 7, none⟩ (.bool false)).setCell ⟨db, 8, none⟩ (.int .i64 buf)) a6 (ansN (1 + u % 4) m0) (sX (1 + u % 4) m0 (ansN (1 + u % 4) m0)) := by
                    rcases ha6 with rfl | ⟨_, e0⟩
                    · have q1 := SliceIs.ofRow hr10.data
                      rw [Hxs.out, sX_len] at q1
                      exact q1
                    · rw [e0]; exact SliceIs.nil _ _ _
                  have ha10 : ∀ x, blockOf a6 = some x → x < ((((((((((w6.setCell ⟨db, 0, none⟩ (.bool true)).setCell ⟨db, 1, none⟩ (.int .i64 (ansCode (1 + u % 4) m0))).setCell ⟨db, 2, none⟩ (.slice a6 (ansN (1 + u % 4) m0) c6)).setCell ⟨db, 3, none⟩ (.bool (ansValid (1 + u % 4) m0))).setCell ⟨db, 4, none⟩ (.int .i64 0)).setCell ⟨db, 5, none⟩ (.bool false)).setCell ⟨db, 6, none⟩ (.bool false)).setCell ⟨db, 7, none⟩ (.bool false)).setCell ⟨db, 8, none⟩ (.int .i64 buf))).heap.size ∧ x ≠ bw ∧ x ≠ fb := by
                    intro x hx
                    rcases ha6 with rfl | ⟨rfl, _⟩
                    · have hx2 : rown a6 dc6 (rstep 1 (12 + 4 * (1 + u % 4)) (1 + u % 4) q mi).1 = some x := by
                        cases a6 with
                        | none => simp [blockOf] at hx
                        | some a => simpa [blockOf, rown, Value.ownBlock] using hx
                      have := ho7 x hx2
                      exact ⟨rown_lt hr10 hx2, by omega, by omega⟩
                    · simp [blockOf] at hx
                  have hf10 := (Hf.out.keep HK9.out (by simp)).keep k11 (by simp; omega)
                  have hsz := k11.size
                  have hnl : ansN (1 + u % 4) m0 ≤ 16 := by unfold ansN sF; split <;> (try split) <;> omega
                  have hb10 := below_keeps (below_keeps Hb.out HK9.out (by simp) (by omega)) k11 (by simp; omega) (by omega)
                  have h3 : ∀ (hx : 1 ≤ k), SliceIs ((((((((((w6.setCell ⟨db, 0, none⟩ (.bool true)).setCell ⟨db, 1, none⟩ (.int .i64 (ansCode (1 + u % 4) m0))).setCell ⟨db, 2, none⟩ (.slice a6 (ansN (1 + u % 4) m0) c6)).setCell ⟨db, 3, none⟩ (.bool (ansValid (1 + u % 4) m0))).setCell ⟨db, 4, none⟩ (.int .i64 0)).setCell ⟨db, 5, none⟩ (.bool false)).setCell ⟨db, 6, none⟩ (.bool false)).setCell ⟨db, 7, none⟩ (.bool false)).setCell ⟨db, 8, none⟩ (.int .i64 buf))) fa fn (sX (1 + u % 4) m0 fn) ∧ ∀ x, blockOf fa = some x → x < ((((((((((w6.setCell ⟨db, 0, none⟩ (.bool true)).setCell ⟨db, 1, none⟩ (.int .i64 (ansCode (1 + u % 4) m0))).setCell ⟨db, 2, none⟩ (.slice a6 (ansN (1 + u % 4) m0) c6)).setCell ⟨db, 3, none⟩ (.bool (ansValid (1 + u % 4) m0))).setCell ⟨db, 4, none⟩ (.int .i64 0)).setCell ⟨db, 5, none⟩ (.bool false)).setCell ⟨db, 6, none⟩ (.bool false)).setCell ⟨db, 7, none⟩ (.bool false)).setCell ⟨db, 8, none⟩ (.int .i64 buf))).heap.size ∧ x ≠ bw ∧ x ≠ fb := by
                    intro hx
                    obtain ⟨_, _, _, s1, s2⟩ := Hs.out hx
                    refine ⟨(s1.keep HK9.out (fun x a => by simp)).keep k11 (fun x a => by have := s2 x a; simp; omega), fun x a => ?_⟩
                    have := s2 x a
                    have := HK9.out.size
                    omega
                  have H10 := Lib.hid (And.intro B10 (And.intro hm10 (And.intro hsl (And.intro ha10 (And.intro hf10 (And.intro hb10 h3))))))
                  have hdl := B10.lt
                  clear B10 hm10 hr10 k10 k11 hsl ha10 hf10 hb10 h3 hk6 hm6 hr6 ho6 ha6 ho7 B6 C6 F6 L6 H6 Hxs Hfin Hri Hmi Hrd Hdb Hki Hoi Hown hsz
                  generalize (((((((((w6.setCell ⟨db, 0, none⟩ (.bool true)).setCell ⟨db, 1, none⟩ (.int .i64 (ansCode (1 + u % 4) m0))).setCell ⟨db, 2, none⟩ (.slice a6 (ansN (1 + u % 4) m0) c6)).setCell ⟨db, 3, none⟩ (.bool (ansValid (1 + u % 4) m0))).setCell ⟨db, 4, none⟩ (.int .i64 0)).setCell ⟨db, 5, none⟩ (.bool false)).setCell ⟨db, 6, none⟩ (.bool false)).setCell ⟨db, 7, none⟩ (.bool false)).setCell ⟨db, 8, none⟩ (.int .i64 buf)) = w10 at *
                  have C10 := H10.out.1.cell
                  have Cf10 := H10.out.2.2.2.2.1.cell
                  have Ff10 := H10.out.2.2.2.2.1.frozen
                  have Lf10 := H10.out.2.2.2.2.1.lt
                  have hfd : fb ≠ db := by omega
                  have hfd' : db ≠ fb := by omega
                  by_cases hkz : k = 0
                  · subst hkz
                    go_wp2_with (first | (go_at_call 17; (with_reducible refine (SameAnswer_yes _ _ _ a6 a6 _ c6 c6 (sX (1 + u % 4) m0 (ansN (1 + u % 4) m0)) (by omega) _ ?_ ?_).mono ?_); (exact H10.out.2.2.1.keep (l := [fb]) (by (repeat' with_reducible (first | exact Keeps.refl _ _ | (refine Keeps.setCell ?_ (by simp) _)))) (fun x a => by have := H10.out.2.2.2.1 x a; simp; omega)); (exact H10.out.2.2.1.keep (l := [fb]) (by (repeat' with_reducible (first | exact Keeps.refl _ _ | (refine Keeps.setCell ?_ (by simp) _)))) (fun x a => by have := H10.out.2.2.2.1 x a; simp; omega)); rintro e w12 ⟨rfl, hk12⟩) | (fail))
                    go_roundw
                    case rel =>
                      have k13 : Keeps [fb] w10 ((((w10.setCell ⟨fb, 0, none⟩ (.int .i64 (ansCode (1 + u % 4) m0))).setCell ⟨fb, 1, none⟩ (.slice a6 (ansN (1 + u % 4) m0) c6)).setCell ⟨fb, 2, none⟩ (.bool (ansValid (1 + u % 4) m0))).setCell ⟨fb, 3, none⟩ (.int .i64 0)) := by (repeat' with_reducible (first | exact Keeps.refl _ _ | (refine Keeps.setCell ?_ (by simp) _)))
                      have k14 : Keeps [fb] w10 w12 := k13.trans (hk12.mono (by simp))
                      have hz := k14.size
                      refine ⟨1, by omega, rfl, _, _, a6, _, c6, _, Hl2.out, H10.out.2.1.keep k14 (by simp; omega) (by simp; omega), below_keeps H10.out.2.2.2.2.2.1 k14 (by simp; omega) (by omega), H10.out.2.2.2.2.1.four4.keep hk12 (by simp), fun _ => ⟨rfl, rfl, rfl, H10.out.2.2.1.keep k14 (fun x a => by have := H10.out.2.2.2.1 x a; simp; omega), fun x a => ?_⟩⟩
                      have := H10.out.2.2.2.1 x a
                      omega
                    case measure => simp [intOf]
                  · have hk1' : 1 ≤ k := by omega
                    obtain ⟨rfl, rfl, rfl, _, _⟩ := Hs.out hk1'
                    have hke : ((k : Int) == 0) = false := by simp; omega
                    go_wp2_with (first | (go_at_call 17; (with_reducible refine (SameAnswer_yes _ _ _ a6 fa _ c6 fc (sX (1 + u % 4) m0 (ansN (1 + u % 4) m0)) (by omega) _ ?_ ?_).mono ?_); (exact H10.out.2.2.1.keep (l := []) (by (repeat' with_reducible (first | exact Keeps.refl _ _ | assumption | apply Keeps.drew | apply Keeps.drewN | apply Keeps.alloc))) (fun x a => by simp)); (exact (H10.out.2.2.2.2.2.2 hk1').1.keep (l := []) (by (repeat' with_reducible (first | exact Keeps.refl _ _ | assumption | apply Keeps.drew | apply Keeps.drewN | apply Keeps.alloc))) (fun x a => by simp)); rintro e w12 ⟨rfl, hk12⟩) | (fail))
                    go_roundw
                    case rel =>
                      have hz := hk12.size
                      refine ⟨k + 1, by omega, by go_num, _, _, fa, _, fc, _, Hl2.out, H10.out.2.1.keep hk12 (by simp) (by simp), below_keeps H10.out.2.2.2.2.2.1 hk12 (by simp) (by omega), H10.out.2.2.2.2.1.keep hk12 (by simp), fun _ => ⟨rfl, rfl, rfl, (H10.out.2.2.2.2.2.2 hk1').1.keep hk12 (fun x a => by simp), fun x a => ?_⟩⟩
                      have := (H10.out.2.2.2.2.2.2 hk1').2 x a
                      omega
                    case measure => simp [intOf]; omega
            · obtain rfl : k = 3 := by omega
              have hk1 : ¬ ((3 : Nat) : Int) < 3 := by omega
              go_wp2_with fail
              go_ret
              exact ⟨rfl, (Hb4.out.trans (HB7.out.mono hwn)).trans (Hb.out.mono hwn)⟩

end Go.Proofs.Ytpkjffiajidfcaa

/- FourStays: reads that follow each other, with no write between, find the same: for every input the law returns true, and its arguments read behind the call as before. No conditions. -/
namespace Go.Proofs.Ytpkjffiajidfcaa
open Go.ChangeShapes Go.WideShapes Go.ChangeAt Go.RowKit

set_option maxRecDepth 100000 in
theorem fourStays_lifted (os : Os) (started : os.Started) (H : Type) (enc : TypeId × Value → H) :
    ReturnsInHanded {} Try.checked os 6 .any (Rows.fourStaysSpec.pre6 enc Try.prog Try.f6 Rows.fourStaysRow.domain false) (Rows.fourStaysSpec.post enc Try.prog Try.f6 false true false false) := by
  refine returnsInHanded_of_change (C := Try.checked) law_own started (by kernel_rfl) Try.func6
    (ChangeSpec.witness6 (enc := enc) (C := Try.checked) false ⟨#[], #[.int .u8 0, .slice none 0 0, .int .u8 0], []⟩ 8 (by kernel_rfl) (by kernel_rfl) (by kernel_rfl) (by kernel_rfl)) ?_
  intro W base args ds gs before hval0 hW _ _
  have hval : ∀ (j : Nat) t v, Try.f6.params[j]? = some t → args[j]? = some v → Value.okWide Try.prog W .any base t v := hval0
  have hW' := hW
  obtain ⟨p, q, hA0, hV, rfl, hfz, hnd⟩ := hW
  have hA : DataW.TrodAll enc Try.prog W 0 (fun _ => true) true Try.f6.params.toList args.toList ds p := hA0
  rw [Try.params6] at hA hval
  obtain ⟨v0, vs0, d0, ds0, p0, q0, hargs, rfl, rfl, h0, r0⟩ := trodAll_cons hA
  obtain ⟨v1, vs1, d1, ds1, p1, q1, rfl, rfl, rfl, h1, r1⟩ := trodAll_cons r0
  obtain ⟨v2, vs2, d2, ds2, p2, q2, rfl, rfl, rfl, h2, r2⟩ := trodAll_cons r1
  obtain ⟨rfl, rfl, rfl⟩ := trodAll_nil r2
  obtain rfl : args = #[v0, v1, v2] := by cases args; simp_all
  obtain ⟨rfl, rfl⟩ := trodVars_none hV
  obtain ⟨a0, rfl, rfl, rfl, w0⟩ := open_int Try.underlying5 (hval 0 5 v0 rfl rfl) h0
  have b0 := bounds_u8 w0
  obtain ⟨s1, n1, c1, rfl⟩ := okWide_slice Try.underlying22 (hval 1 22 v1 rfl rfl)
  obtain ⟨fu1, hf1⟩ := h1
  have hB1 : ∃ B : Nat → Bool, n1 ≤ maxLen ∧ ∀ i, i < n1 → ∃ b o, s1 = some ⟨b, o, none⟩ ∧ W.cell? ⟨b, o + i, none⟩ = some (.bool (B i)) := by
    rcases Deep.open_bools Try.underlying22 Try.underlying4 law_c4 hf1 with ⟨hcs, _⟩ | ⟨ad, len, cap, B, hcs, _, hl, hm, _, hcell⟩
    · simp [Value.cells] at hcs
      exact ⟨fun _ => false, by omega, fun i hi => by omega⟩
    · simp [Value.cells] at hcs
      obtain ⟨rfl, rfl, rfl⟩ := hcs
      refine ⟨B, by omega, fun i hi => ?_⟩
      obtain ⟨b, o, spot⟩ := ad
      have hs : spot = none := by simpa [Addr.add] using World.cell?_spot (hcell 0 (by omega))
      subst hs
      exact ⟨b, o, rfl, by have := hcell i (by omega); rwa [addr_add] at this⟩
  obtain ⟨B1, hm1, hc1⟩ := hB1
  unfold maxLen at hm1
  obtain ⟨a2, rfl, rfl, rfl, w2⟩ := open_int Try.underlying5 (hval 2 5 v2 rfl rfl) h2
  have b2 := bounds_u8 w2
  clear hval0 hA hA0
  refine (FourStays_any a0 b0.1 b0.2 a2 b2.1 b2.2 s1 n1 c1 B1 hm1 W hc1).mono fun e W' ⟨he, hb⟩ => ?_
  subst he
  exact ⟨_, rfl, law_post (t := 4) law_laid (by rw [Try.params6]; intro t ht; simp only [List.mem_cons, List.not_mem_nil, or_false] at ht; rcases ht with rfl | rfl | rfl <;> exact ⟨by kernel_rfl, of_decide_eq_true (by kernel_rfl)⟩) (by kernel_rfl) Try.underlying4 hW' rfl rfl rfl rfl hb⟩

theorem fourStays_holds : Rows.FourStaysSaid :=
  OpenClaim.holds_of_wide 6 Try.f6 rfl rfl rfl rfl rfl rfl rfl ⟨rfl, rfl, rfl, rfl, rfl⟩ rfl rfl rfl rfl rfl (by kernel_rfl) Try.func6 (by kernel_rfl)
    (of_decide_eq_true (by kernel_rfl)) (by unfold Func.isWrapper; first | (rw [if_pos (by decide +kernel)]; kernel_rfl) | (rw [if_neg (by decide +kernel)]; exact ⟨rfl, rfl⟩))
    (fun os started H enc _ => fourStays_lifted os started H enc)
#print axioms fourStays_holds
end Go.Proofs.Ytpkjffiajidfcaa
