/- windows of package portholeref07, number 12. -/
import Derived.Test.YtpkjffiajidfcaaG4
set_option linter.all false
set_option linter.unusedVariables false
set_option linter.unusedSimpArgs false

namespace Go.Proofs.Ytpkjffiajidfcaa
open Go.RowKit


set_option maxRecDepth 100000 in
set_option maxHeartbeats 4000000 in
theorem refWindows_12_0 (c : CfgV) (w : World) (h : CfgAt w c) :
    Calls Try.prog 44 #[.agg c.cells, .int .i64 0, .int .i64 12] w (Says (.bool (!inR c.l0 1 64)) w) := by
  have hpn := h.pn
  have hwn := h.w0n
  have hl := h.l0.lo
  have hl' := h.l0.hi
  have Hc := Lib.hid h
  clear h
  generalize hG : (!inR c.l0 1 64) = G
  have HG := Lib.hid hG
  clear hG

  by_cases h1 : c.l0 < 1
  · simp only [CfgV.cells]
    go_enter Try.func44, Try.ntmps44
    go_wp2_with fail
    go_ret
    exact ⟨ret_bool (by rw [← HG.out]; simp [inR] <;> omega), by (repeat' with_reducible (first | exact Keeps.refl _ _ | assumption | apply Keeps.drew | apply Keeps.drewN | apply Keeps.alloc))⟩
  · by_cases h2 : 64 < c.l0
    · simp only [CfgV.cells]
      go_enter Try.func44, Try.ntmps44
      go_wp2_with fail
      go_ret
      exact ⟨ret_bool (by rw [← HG.out]; simp [inR] <;> omega), by (repeat' with_reducible (first | exact Keeps.refl _ _ | assumption | apply Keeps.drew | apply Keeps.drewN | apply Keeps.alloc))⟩
    · simp only [CfgV.cells]
      go_enter Try.func44, Try.ntmps44
      go_wp2_with fail
      go_ret
      exact ⟨ret_bool (by rw [← HG.out]; simp [inR] <;> omega), by (repeat' with_reducible (first | exact Keeps.refl _ _ | assumption | apply Keeps.drew | apply Keeps.drewN | apply Keeps.alloc))⟩


set_option maxRecDepth 100000 in
set_option maxHeartbeats 4000000 in
theorem refWindows_12_1 (c : CfgV) (w : World) (h : CfgAt w c) :
    Calls Try.prog 44 #[.agg c.cells, .int .i64 1, .int .i64 12] w (Says (.bool (!inR c.l1 1 64)) w) := by
  have hpn := h.pn
  have hwn := h.w1n
  have hl := h.l1.lo
  have hl' := h.l1.hi
  have Hc := Lib.hid h
  clear h
  generalize hG : (!inR c.l1 1 64) = G
  have HG := Lib.hid hG
  clear hG

  by_cases h1 : c.l1 < 1
  · simp only [CfgV.cells]
    go_enter Try.func44, Try.ntmps44
    go_wp2_with fail
    go_ret
    exact ⟨ret_bool (by rw [← HG.out]; simp [inR] <;> omega), by (repeat' with_reducible (first | exact Keeps.refl _ _ | assumption | apply Keeps.drew | apply Keeps.drewN | apply Keeps.alloc))⟩
  · by_cases h2 : 64 < c.l1
    · simp only [CfgV.cells]
      go_enter Try.func44, Try.ntmps44
      go_wp2_with fail
      go_ret
      exact ⟨ret_bool (by rw [← HG.out]; simp [inR] <;> omega), by (repeat' with_reducible (first | exact Keeps.refl _ _ | assumption | apply Keeps.drew | apply Keeps.drewN | apply Keeps.alloc))⟩
    · simp only [CfgV.cells]
      go_enter Try.func44, Try.ntmps44
      go_wp2_with fail
      go_ret
      exact ⟨ret_bool (by rw [← HG.out]; simp [inR] <;> omega), by (repeat' with_reducible (first | exact Keeps.refl _ _ | assumption | apply Keeps.drew | apply Keeps.drewN | apply Keeps.alloc))⟩

end Go.Proofs.Ytpkjffiajidfcaa

/- windows of package portholeref07, number 13. -/
namespace Go.Proofs.Ytpkjffiajidfcaa
open Go.RowKit


set_option maxRecDepth 100000 in
set_option maxHeartbeats 4000000 in
theorem refWindows_13_0 (c : CfgV) (w : World) (h : CfgAt w c) :
    Calls Try.prog 44 #[.agg c.cells, .int .i64 0, .int .i64 13] w (Says (.bool (decide (16 < (c.w0n : Int)))) w) := by
  have hpn := h.pn
  have hwn := h.w0n
  have hl := h.l0.lo
  have hl' := h.l0.hi
  have Hc := Lib.hid h
  clear h
  generalize hG : (decide (16 < (c.w0n : Int))) = G
  have HG := Lib.hid hG
  clear hG

  simp only [CfgV.cells]
  go_enter Try.func44, Try.ntmps44
  go_wp2_with fail
  go_ret
  exact ⟨ret_bool (by first | exact HG.out | (rw [← HG.out]; simp [inR] <;> omega)), by (repeat' with_reducible (first | exact Keeps.refl _ _ | assumption | apply Keeps.drew | apply Keeps.drewN | apply Keeps.alloc))⟩

set_option maxRecDepth 100000 in
set_option maxHeartbeats 4000000 in
theorem refWindows_13_1 (c : CfgV) (w : World) (h : CfgAt w c) :
    Calls Try.prog 44 #[.agg c.cells, .int .i64 1, .int .i64 13] w (Says (.bool (decide (16 < (c.w1n : Int)))) w) := by
  have hpn := h.pn
  have hwn := h.w1n
  have hl := h.l1.lo
  have hl' := h.l1.hi
  have Hc := Lib.hid h
  clear h
  generalize hG : (decide (16 < (c.w1n : Int))) = G
  have HG := Lib.hid hG
  clear hG

  simp only [CfgV.cells]
  go_enter Try.func44, Try.ntmps44
  go_wp2_with fail
  go_ret
  exact ⟨ret_bool (by first | exact HG.out | (rw [← HG.out]; simp [inR] <;> omega)), by (repeat' with_reducible (first | exact Keeps.refl _ _ | assumption | apply Keeps.drew | apply Keeps.drewN | apply Keeps.alloc))⟩
end Go.Proofs.Ytpkjffiajidfcaa

/- windows of package portholeref07, number 14. -/
namespace Go.Proofs.Ytpkjffiajidfcaa
open Go.RowKit


set_option maxRecDepth 100000 in
set_option maxHeartbeats 4000000 in
theorem refWindows_14_0 (c : CfgV) (w : World) (h : CfgAt w c) :
    Calls Try.prog 44 #[.agg c.cells, .int .i64 0, .int .i64 14] w (Says (.bool (anyOf (fun i => spForeign c 0 (c.win0 i 0) (c.win0 i 1) (c.win0 i 2)) c.w0n)) w) := by
  have hpn := h.pn
  have hwn := h.w0n
  have hl := h.l0.lo
  have hl' := h.l0.hi
  have Hc := Lib.hid h
  clear h
  generalize hG : (anyOf (fun i => spForeign c 0 (c.win0 i 0) (c.win0 i 1) (c.win0 i 2)) c.w0n) = G
  have HG := Lib.hid hG
  clear hG

  have hx0 : ∀ i j, I64 (c.win0 i j) := Hc.out.win0
  have Hx0 := Lib.hid hx0
  clear hx0
  simp only [CfgV.cells]
  go_enter Try.func44, Try.ntmps44
  go_wp2_with fail
  go_loopw [8] (fun v wr => ∃ i : Nat, i ≤ c.w0n ∧ v = .int .i64 i ∧ (∀ j, j < i → (fun i => spForeign c 0 (c.win0 i 0) (c.win0 i 1) (c.win0 i 2)) j = false) ∧ Keeps [] (w.alloc (.cells c.cells 31)) wr) (fun v _ => c.w0n - (intOf v).toNat)
  case atStart => exact ⟨0, Nat.zero_le _, rfl, by intro j hj; omega, Keeps.refl _ _⟩
  case round =>
    obtain ⟨i, hi, rfl, hg0, hk⟩ := hrel
    have Hg := Lib.hid hg0
    clear hg0
    have hbx : Blk wr w.heap.size c.cells 31 := (Blk.new _ _ _).keep hk (by simp)
    have hbl := hbx.lt
    have hbc := hbx.cell
    have Hk0 := Lib.hid hk
    have Hkk := Lib.hid (Keeps.trans (by (repeat' with_reducible (first | exact Keeps.refl _ _ | assumption | apply Keeps.drew | apply Keeps.drewN | apply Keeps.alloc))) hk : Keeps [] w wr)
    by_cases hlt : i < c.w0n
    · obtain ⟨b, o, hwa, hb, hrow⟩ := Hc.out.wins0.resolve_left (by omega)
      have hi0 : (0 : Int) ≤ (i : Int) := Int.natCast_nonneg _
      have hi1 : (i : Int) < (c.w0n : Int) := by omega
      have hbr : b < wr.heap.size := by have := hk.size; simp at this; omega
      have hbr1 : b < wr.heap.size + 1 := by omega
      have hk := Hkk.out
      have c0 : wr.cell? ⟨b, o + i * 3, none⟩ = some (.int .i64 (c.win0 i 0)) := (Keeps.cell hk hb (by simp)).trans (by simpa [i64s] using hrow i hlt 0 (by omega))
      have c1 : wr.cell? ⟨b, o + i * 3 + 1, none⟩ = some (.int .i64 (c.win0 i 1)) := (Keeps.cell hk hb (by simp)).trans (hrow i hlt 1 (by omega))
      have c2 : wr.cell? ⟨b, o + i * 3 + 2, none⟩ = some (.int .i64 (c.win0 i 2)) := (Keeps.cell hk hb (by simp)).trans (hrow i hlt 2 (by omega))
      have Hrow := Lib.hid hrow
      have e1 := Hx0.out i 1
      have e2 := Hx0.out i 2
      have e10 := e1.lo
      have e11 := e1.hi
      have e20 := e2.lo
      have e21 := e2.hi
      clear hrow hk e1 e2
      cases hp1 : inR (c.win0 i 0) 0 (c.pn - 1)
      · have P1 := Lib.hid hp1
        go_wp2_with (first | (go_at_call 53; (try rw [← hwa]); (with_reducible refine (refPart_any c _ _ hpn).mono ?_); rintro e w1 ⟨rfl, hk1⟩; rw [hp1]; have B1 : Blk w1 wr.heap.size #[.int .i64 (c.win0 i 0), .int .i64 (c.win0 i 1), .int .i64 (c.win0 i 2)] 65 := Blk.keep (l := []) (by (repeat' (first | with_reducible (first | apply Blk.drew | (refine Blk.newAt ?_; first | rfl | (simp; done)) | apply Blk.alloc)))) hk1 (by simp); have C1 := B1.cell; have L0 := B1.lt; have D1 : Blk w1 w.heap.size c.cells 31 := Blk.keep (l := []) (by (repeat' (first | with_reducible (first | assumption | apply Blk.drew | apply Blk.alloc)))) hk1 (by simp); have E1 := D1.cell; have L1 := D1.lt) | (fail))
        go_ret
        exact ⟨ret_bool (by rw [← HG.out]; exact (anyOf_true hlt (by simp [spForeign, P1.out])).symm), Keeps.trans Hkk.out (by (repeat' with_reducible (first | exact Keeps.refl _ _ | assumption | apply Keeps.drew | apply Keeps.drewN | apply Keeps.alloc | refine Keeps.trans ?_ hk1 | refine Keeps.trans ?_ hk2 | refine Keeps.trans ?_ hk3 | refine Keeps.trans ?_ hk4)))⟩
      · have P1 := Lib.hid hp1
        have hp1' := hp1
        have hin : 0 ≤ c.win0 i 0 ∧ c.win0 i 0 < (c.pn : Int) := by simp [inR] at hp1'; omega
        clear hp1'
        obtain ⟨q, hq⟩ : ∃ q : Nat, c.win0 i 0 = (q : Int) := ⟨(c.win0 i 0).toNat, by omega⟩
        have hq1 : (q : Int) < (c.pn : Int) := by omega
        have hq0 : (0 : Int) ≤ (q : Int) := Int.natCast_nonneg _
        obtain ⟨pb, po, hpa, hpb, hprow⟩ := Hc.out.parts.resolve_left (by omega)
        have d0 : w.cell? ⟨pb, po + q * 2, none⟩ = some (.int .i64 (c.part q 0)) := by simpa [i64s] using hprow q (by omega) 0 (by omega)
        have Hd0 := Lib.hid d0
        have Hq := Lib.hid hq
        have hpb1 : pb < wr.heap.size + 1 := by have := Hkk.out.size; omega
        clear hprow d0 hin
        by_cases p2 : c.part q 0 = 0
        · have P2 := Lib.hid p2
          have q2 : (c.part q 0 == 0) = true := by simpa using p2
          have r2 : (c.part q 0 != 0) = false := by simpa using p2
          clear p2
          go_wp2_with (first | (go_at_call 53; (try rw [← hwa]); (try rw [← hq]); (try rw [← hpa]); (with_reducible refine (refPart_any c _ _ hpn).mono ?_); rintro e w1 ⟨rfl, hk1⟩; rw [hp1]; have B1 : Blk w1 wr.heap.size #[.int .i64 (c.win0 i 0), .int .i64 (c.win0 i 1), .int .i64 (c.win0 i 2)] 65 := Blk.keep (l := []) (by (repeat' (first | with_reducible (first | apply Blk.drew | (refine Blk.newAt ?_; first | rfl | (simp; done)) | apply Blk.alloc)))) hk1 (by simp); have C1 := B1.cell; have L0 := B1.lt; have D1 : Blk w1 w.heap.size c.cells 31 := Blk.keep (l := []) (by (repeat' (first | with_reducible (first | assumption | apply Blk.drew | apply Blk.alloc)))) hk1 (by simp); have E1 := D1.cell; have L1 := D1.lt; have M1 : w1.cell? ⟨pb, po + q * 2, none⟩ = some (.int .i64 (c.part q 0)) := (Keeps.cell (Keeps.trans Hkk.out (Keeps.trans (by (repeat' with_reducible (first | exact Keeps.refl _ _ | assumption | apply Keeps.drew | apply Keeps.drewN | apply Keeps.alloc))) hk1)) hpb (by simp)).trans Hd0.out) | (fail))
          all_goals go_quiet (fail)
          all_goals go_wp2_with fail
          all_goals go_quiet (fail)
          all_goals go_wp2_with fail
          first | ((try rw [← hpa]); rw [← hwa]; go_roundw) | ((try rw [← hpa]); go_roundw) | go_roundw | (refine ⟨?rel, ?measure⟩)
          case rel =>
            refine ⟨i + 1, by omega, by go_num, ?_, Keeps.trans Hk0.out (by (repeat' with_reducible (first | exact Keeps.refl _ _ | assumption | apply Keeps.drew | apply Keeps.drewN | apply Keeps.alloc | refine Keeps.trans ?_ hk1 | refine Keeps.trans ?_ hk2 | refine Keeps.trans ?_ hk3 | refine Keeps.trans ?_ hk4)))⟩
            intro j hj
            by_cases ej : j = i
            · rw [ej]; unfold spForeign; rw [P1.out, Hq.out]; simp [P2.out]
            · exact Hg.out j (by omega)
          case measure => simp [intOf]; omega
        · have P2 := Lib.hid p2
          have q2 : (c.part q 0 == 0) = false := by simpa using p2
          have r2 : (c.part q 0 != 0) = true := by simpa using p2
          clear p2
          go_wp2_with (first | (go_at_call 53; (try rw [← hwa]); (try rw [← hq]); (try rw [← hpa]); (with_reducible refine (refPart_any c _ _ hpn).mono ?_); rintro e w1 ⟨rfl, hk1⟩; rw [hp1]; have B1 : Blk w1 wr.heap.size #[.int .i64 (c.win0 i 0), .int .i64 (c.win0 i 1), .int .i64 (c.win0 i 2)] 65 := Blk.keep (l := []) (by (repeat' (first | with_reducible (first | apply Blk.drew | (refine Blk.newAt ?_; first | rfl | (simp; done)) | apply Blk.alloc)))) hk1 (by simp); have C1 := B1.cell; have L0 := B1.lt; have D1 : Blk w1 w.heap.size c.cells 31 := Blk.keep (l := []) (by (repeat' (first | with_reducible (first | assumption | apply Blk.drew | apply Blk.alloc)))) hk1 (by simp); have E1 := D1.cell; have L1 := D1.lt; have M1 : w1.cell? ⟨pb, po + q * 2, none⟩ = some (.int .i64 (c.part q 0)) := (Keeps.cell (Keeps.trans Hkk.out (Keeps.trans (by (repeat' with_reducible (first | exact Keeps.refl _ _ | assumption | apply Keeps.drew | apply Keeps.drewN | apply Keeps.alloc))) hk1)) hpb (by simp)).trans Hd0.out) | (fail))
          go_ret
          exact ⟨ret_bool (by rw [← HG.out]; exact (anyOf_true hlt (by unfold spForeign; rw [P1.out, Hq.out]; simp [P2.out])).symm), Keeps.trans Hkk.out (by (repeat' with_reducible (first | exact Keeps.refl _ _ | assumption | apply Keeps.drew | apply Keeps.drewN | apply Keeps.alloc | refine Keeps.trans ?_ hk1 | refine Keeps.trans ?_ hk2 | refine Keeps.trans ?_ hk3 | refine Keeps.trans ?_ hk4)))⟩
    · go_wp2
      go_ret
      exact ⟨ret_bool (by rw [← HG.out]; exact (anyOf_false fun j hj => Hg.out j (by omega)).symm), Hkk.out⟩


set_option maxRecDepth 100000 in
set_option maxHeartbeats 4000000 in
theorem refWindows_14_1 (c : CfgV) (w : World) (h : CfgAt w c) :
    Calls Try.prog 44 #[.agg c.cells, .int .i64 1, .int .i64 14] w (Says (.bool (anyOf (fun i => spForeign c 1 (c.win1 i 0) (c.win1 i 1) (c.win1 i 2)) c.w1n)) w) := by
  have hpn := h.pn
  have hwn := h.w1n
  have hl := h.l1.lo
  have hl' := h.l1.hi
  have Hc := Lib.hid h
  clear h
  generalize hG : (anyOf (fun i => spForeign c 1 (c.win1 i 0) (c.win1 i 1) (c.win1 i 2)) c.w1n) = G
  have HG := Lib.hid hG
  clear hG

  have hx0 : ∀ i j, I64 (c.win1 i j) := Hc.out.win1
  have Hx0 := Lib.hid hx0
  clear hx0
  simp only [CfgV.cells]
  go_enter Try.func44, Try.ntmps44
  go_wp2_with fail
  go_loopw [8] (fun v wr => ∃ i : Nat, i ≤ c.w1n ∧ v = .int .i64 i ∧ (∀ j, j < i → (fun i => spForeign c 1 (c.win1 i 0) (c.win1 i 1) (c.win1 i 2)) j = false) ∧ Keeps [] (w.alloc (.cells c.cells 31)) wr) (fun v _ => c.w1n - (intOf v).toNat)
  case atStart => exact ⟨0, Nat.zero_le _, rfl, by intro j hj; omega, Keeps.refl _ _⟩
  case round =>
    obtain ⟨i, hi, rfl, hg0, hk⟩ := hrel
    have Hg := Lib.hid hg0
    clear hg0
    have hbx : Blk wr w.heap.size c.cells 31 := (Blk.new _ _ _).keep hk (by simp)
    have hbl := hbx.lt
    have hbc := hbx.cell
    have Hk0 := Lib.hid hk
    have Hkk := Lib.hid (Keeps.trans (by (repeat' with_reducible (first | exact Keeps.refl _ _ | assumption | apply Keeps.drew | apply Keeps.drewN | apply Keeps.alloc))) hk : Keeps [] w wr)
    by_cases hlt : i < c.w1n
    · obtain ⟨b, o, hwa, hb, hrow⟩ := Hc.out.wins1.resolve_left (by omega)
      have hi0 : (0 : Int) ≤ (i : Int) := Int.natCast_nonneg _
      have hi1 : (i : Int) < (c.w1n : Int) := by omega
      have hbr : b < wr.heap.size := by have := hk.size; simp at this; omega
      have hbr1 : b < wr.heap.size + 1 := by omega
      have hk := Hkk.out
      have c0 : wr.cell? ⟨b, o + i * 3, none⟩ = some (.int .i64 (c.win1 i 0)) := (Keeps.cell hk hb (by simp)).trans (by simpa [i64s] using hrow i hlt 0 (by omega))
      have c1 : wr.cell? ⟨b, o + i * 3 + 1, none⟩ = some (.int .i64 (c.win1 i 1)) := (Keeps.cell hk hb (by simp)).trans (hrow i hlt 1 (by omega))
      have c2 : wr.cell? ⟨b, o + i * 3 + 2, none⟩ = some (.int .i64 (c.win1 i 2)) := (Keeps.cell hk hb (by simp)).trans (hrow i hlt 2 (by omega))
      have Hrow := Lib.hid hrow
      have e1 := Hx0.out i 1
      have e2 := Hx0.out i 2
      have e10 := e1.lo
      have e11 := e1.hi
      have e20 := e2.lo
      have e21 := e2.hi
      clear hrow hk e1 e2
      cases hp1 : inR (c.win1 i 0) 0 (c.pn - 1)
      · have P1 := Lib.hid hp1
        go_wp2_with (first | (go_at_call 53; (try rw [← hwa]); (with_reducible refine (refPart_any c _ _ hpn).mono ?_); rintro e w1 ⟨rfl, hk1⟩; rw [hp1]; have B1 : Blk w1 wr.heap.size #[.int .i64 (c.win1 i 0), .int .i64 (c.win1 i 1), .int .i64 (c.win1 i 2)] 65 := Blk.keep (l := []) (by (repeat' (first | with_reducible (first | apply Blk.drew | (refine Blk.newAt ?_; first | rfl | (simp; done)) | apply Blk.alloc)))) hk1 (by simp); have C1 := B1.cell; have L0 := B1.lt; have D1 : Blk w1 w.heap.size c.cells 31 := Blk.keep (l := []) (by (repeat' (first | with_reducible (first | assumption | apply Blk.drew | apply Blk.alloc)))) hk1 (by simp); have E1 := D1.cell; have L1 := D1.lt) | (fail))
        go_ret
        exact ⟨ret_bool (by rw [← HG.out]; exact (anyOf_true hlt (by simp [spForeign, P1.out])).symm), Keeps.trans Hkk.out (by (repeat' with_reducible (first | exact Keeps.refl _ _ | assumption | apply Keeps.drew | apply Keeps.drewN | apply Keeps.alloc | refine Keeps.trans ?_ hk1 | refine Keeps.trans ?_ hk2 | refine Keeps.trans ?_ hk3 | refine Keeps.trans ?_ hk4)))⟩
      · have P1 := Lib.hid hp1
        have hp1' := hp1
        have hin : 0 ≤ c.win1 i 0 ∧ c.win1 i 0 < (c.pn : Int) := by simp [inR] at hp1'; omega
        clear hp1'
        obtain ⟨q, hq⟩ : ∃ q : Nat, c.win1 i 0 = (q : Int) := ⟨(c.win1 i 0).toNat, by omega⟩
        have hq1 : (q : Int) < (c.pn : Int) := by omega
        have hq0 : (0 : Int) ≤ (q : Int) := Int.natCast_nonneg _
        obtain ⟨pb, po, hpa, hpb, hprow⟩ := Hc.out.parts.resolve_left (by omega)
        have d0 : w.cell? ⟨pb, po + q * 2, none⟩ = some (.int .i64 (c.part q 0)) := by simpa [i64s] using hprow q (by omega) 0 (by omega)
        have Hd0 := Lib.hid d0
        have Hq := Lib.hid hq
        have hpb1 : pb < wr.heap.size + 1 := by have := Hkk.out.size; omega
        clear hprow d0 hin
        by_cases p2 : c.part q 0 = 1
        · have P2 := Lib.hid p2
          have q2 : (c.part q 0 == 1) = true := by simpa using p2
          have r2 : (c.part q 0 != 1) = false := by simpa using p2
          clear p2
          go_wp2_with (first | (go_at_call 53; (try rw [← hwa]); (try rw [← hq]); (try rw [← hpa]); (with_reducible refine (refPart_any c _ _ hpn).mono ?_); rintro e w1 ⟨rfl, hk1⟩; rw [hp1]; have B1 : Blk w1 wr.heap.size #[.int .i64 (c.win1 i 0), .int .i64 (c.win1 i 1), .int .i64 (c.win1 i 2)] 65 := Blk.keep (l := []) (by (repeat' (first | with_reducible (first | apply Blk.drew | (refine Blk.newAt ?_; first | rfl | (simp; done)) | apply Blk.alloc)))) hk1 (by simp); have C1 := B1.cell; have L0 := B1.lt; have D1 : Blk w1 w.heap.size c.cells 31 := Blk.keep (l := []) (by (repeat' (first | with_reducible (first | assumption | apply Blk.drew | apply Blk.alloc)))) hk1 (by simp); have E1 := D1.cell; have L1 := D1.lt; have M1 : w1.cell? ⟨pb, po + q * 2, none⟩ = some (.int .i64 (c.part q 0)) := (Keeps.cell (Keeps.trans Hkk.out (Keeps.trans (by (repeat' with_reducible (first | exact Keeps.refl _ _ | assumption | apply Keeps.drew | apply Keeps.drewN | apply Keeps.alloc))) hk1)) hpb (by simp)).trans Hd0.out) | (fail))
          all_goals go_quiet (fail)
          all_goals go_wp2_with fail
          all_goals go_quiet (fail)
          all_goals go_wp2_with fail
          first | ((try rw [← hpa]); rw [← hwa]; go_roundw) | ((try rw [← hpa]); go_roundw) | go_roundw | (refine ⟨?rel, ?measure⟩)
          case rel =>
            refine ⟨i + 1, by omega, by go_num, ?_, Keeps.trans Hk0.out (by (repeat' with_reducible (first | exact Keeps.refl _ _ | assumption | apply Keeps.drew | apply Keeps.drewN | apply Keeps.alloc | refine Keeps.trans ?_ hk1 | refine Keeps.trans ?_ hk2 | refine Keeps.trans ?_ hk3 | refine Keeps.trans ?_ hk4)))⟩
            intro j hj
            by_cases ej : j = i
            · rw [ej]; unfold spForeign; rw [P1.out, Hq.out]; simp [P2.out]
            · exact Hg.out j (by omega)
          case measure => simp [intOf]; omega
        · have P2 := Lib.hid p2
          have q2 : (c.part q 0 == 1) = false := by simpa using p2
          have r2 : (c.part q 0 != 1) = true := by simpa using p2
          clear p2
          go_wp2_with (first | (go_at_call 53; (try rw [← hwa]); (try rw [← hq]); (try rw [← hpa]); (with_reducible refine (refPart_any c _ _ hpn).mono ?_); rintro e w1 ⟨rfl, hk1⟩; rw [hp1]; have B1 : Blk w1 wr.heap.size #[.int .i64 (c.win1 i 0), .int .i64 (c.win1 i 1), .int .i64 (c.win1 i 2)] 65 := Blk.keep (l := []) (by (repeat' (first | with_reducible (first | apply Blk.drew | (refine Blk.newAt ?_; first | rfl | (simp; done)) | apply Blk.alloc)))) hk1 (by simp); have C1 := B1.cell; have L0 := B1.lt; have D1 : Blk w1 w.heap.size c.cells 31 := Blk.keep (l := []) (by (repeat' (first | with_reducible (first | assumption | apply Blk.drew | apply Blk.alloc)))) hk1 (by simp); have E1 := D1.cell; have L1 := D1.lt; have M1 : w1.cell? ⟨pb, po + q * 2, none⟩ = some (.int .i64 (c.part q 0)) := (Keeps.cell (Keeps.trans Hkk.out (Keeps.trans (by (repeat' with_reducible (first | exact Keeps.refl _ _ | assumption | apply Keeps.drew | apply Keeps.drewN | apply Keeps.alloc))) hk1)) hpb (by simp)).trans Hd0.out) | (fail))
          go_ret
          exact ⟨ret_bool (by rw [← HG.out]; exact (anyOf_true hlt (by unfold spForeign; rw [P1.out, Hq.out]; simp [P2.out])).symm), Keeps.trans Hkk.out (by (repeat' with_reducible (first | exact Keeps.refl _ _ | assumption | apply Keeps.drew | apply Keeps.drewN | apply Keeps.alloc | refine Keeps.trans ?_ hk1 | refine Keeps.trans ?_ hk2 | refine Keeps.trans ?_ hk3 | refine Keeps.trans ?_ hk4)))⟩
    · go_wp2
      go_ret
      exact ⟨ret_bool (by rw [← HG.out]; exact (anyOf_false fun j hj => Hg.out j (by omega)).symm), Hkk.out⟩

end Go.Proofs.Ytpkjffiajidfcaa
