/- windows of package portholeref07, number 15. -/
import Derived.Test.YtpkjffiajidfcaaG4
set_option linter.all false
set_option linter.unusedVariables false
set_option linter.unusedSimpArgs false

namespace Go.Proofs.Ytpkjffiajidfcaa
open Go.RowKit


set_option maxRecDepth 100000 in
set_option maxHeartbeats 4000000 in
theorem refWindows_15_0 (c : CfgV) (w : World) (h : CfgAt w c) :
    Calls Try.prog 44 #[.agg c.cells, .int .i64 0, .int .i64 15] w (Says (.bool (anyOf (fun i => spOutside (c.win0 i 1) (c.win0 i 2) c.l0) c.w0n)) w) := by
  have hpn := h.pn
  have hwn := h.w0n
  have hl := h.l0.lo
  have hl' := h.l0.hi
  have Hc := Lib.hid h
  clear h
  generalize hG : (anyOf (fun i => spOutside (c.win0 i 1) (c.win0 i 2) c.l0) c.w0n) = G
  have HG := Lib.hid hG
  clear hG

  have hx0 : ∀ i j, I64 (c.win0 i j) := Hc.out.win0
  have Hx0 := Lib.hid hx0
  clear hx0
  simp only [CfgV.cells]
  go_enter Try.func44, Try.ntmps44
  go_wp2_with fail
  go_loopw [8] (fun v wr => ∃ i : Nat, i ≤ c.w0n ∧ v = .int .i64 i ∧ (∀ j, j < i → (fun i => spOutside (c.win0 i 1) (c.win0 i 2) c.l0) j = false) ∧ Keeps [] (w.alloc (.cells c.cells 31)) wr) (fun v _ => c.w0n - (intOf v).toNat)
  case atStart => exact ⟨0, Nat.zero_le _, rfl, by intro j hj; omega, Keeps.refl _ _⟩
  case round =>
    obtain ⟨i, hi, rfl, hg0, hk⟩ := hrel
    have Hg := Lib.hid hg0
    clear hg0
    have hbx : Blk wr w.heap.size c.cells 31 := (Blk.new _ _ _).keep hk (by simp)
    have hbl := hbx.lt
    have hbc := hbx.cell
    have Hk0 := Lib.hid hk
    have Hkk := Lib.hid (Keeps.trans (by (repeat' with_reducible (first | exact Keeps.refl _ _ | assumption | apply Keeps.drew | apply Keeps.drewN | apply Keeps.alloc))) hk : Keeps [] w wr)
    by_cases hlt : i < c.w0n
    · obtain ⟨b, o, hwa, hb, hrow⟩ := Hc.out.wins0.resolve_left (by omega)
      have hi0 : (0 : Int) ≤ (i : Int) := Int.natCast_nonneg _
      have hi1 : (i : Int) < (c.w0n : Int) := by omega
      have hbr : b < wr.heap.size := by have := hk.size; simp at this; omega
      have hbr1 : b < wr.heap.size + 1 := by omega
      have hk := Hkk.out
      have c0 : wr.cell? ⟨b, o + i * 3, none⟩ = some (.int .i64 (c.win0 i 0)) := (Keeps.cell hk hb (by simp)).trans (by simpa [i64s] using hrow i hlt 0 (by omega))
      have c1 : wr.cell? ⟨b, o + i * 3 + 1, none⟩ = some (.int .i64 (c.win0 i 1)) := (Keeps.cell hk hb (by simp)).trans (hrow i hlt 1 (by omega))
      have c2 : wr.cell? ⟨b, o + i * 3 + 2, none⟩ = some (.int .i64 (c.win0 i 2)) := (Keeps.cell hk hb (by simp)).trans (hrow i hlt 2 (by omega))
      have Hrow := Lib.hid hrow
      have e1 := Hx0.out i 1
      have e2 := Hx0.out i 2
      have e10 := e1.lo
      have e11 := e1.hi
      have e20 := e2.lo
      have e21 := e2.hi
      clear hrow hk e1 e2
      by_cases p1 : c.win0 i 1 < 0
      · have p1' : decide (c.win0 i 1 < 0) = true := by simpa using p1
        go_wp2_with fail
        all_goals go_quiet (fail)
        all_goals go_wp2_with fail
        go_ret
        exact ⟨ret_bool (by rw [← HG.out]; exact (anyOf_true hlt (by simp [spOutside, spBeyond] <;> omega)).symm), Keeps.trans Hkk.out (by (repeat' with_reducible (first | exact Keeps.refl _ _ | assumption | apply Keeps.drew | apply Keeps.drewN | apply Keeps.alloc | refine Keeps.trans ?_ hk1 | refine Keeps.trans ?_ hk2 | refine Keeps.trans ?_ hk3 | refine Keeps.trans ?_ hk4)))⟩
      · have p1' : decide (c.win0 i 1 < 0) = false := by simpa using p1
        by_cases p2 : c.win0 i 2 < 1
        · have p2' : decide (c.win0 i 2 < 1) = true := by simpa using p2
          go_wp2_with fail
          all_goals go_quiet (fail)
          all_goals go_wp2_with fail
          go_ret
          exact ⟨ret_bool (by rw [← HG.out]; exact (anyOf_true hlt (by simp [spOutside, spBeyond] <;> omega)).symm), Keeps.trans Hkk.out (by (repeat' with_reducible (first | exact Keeps.refl _ _ | assumption | apply Keeps.drew | apply Keeps.drewN | apply Keeps.alloc | refine Keeps.trans ?_ hk1 | refine Keeps.trans ?_ hk2 | refine Keeps.trans ?_ hk3 | refine Keeps.trans ?_ hk4)))⟩
        · have p2' : decide (c.win0 i 2 < 1) = false := by simpa using p2
          by_cases p3 : c.l0 < c.win0 i 1
          · have p3' : decide (c.l0 < c.win0 i 1) = true := by simpa using p3
            go_wp2_with fail
            all_goals go_quiet (fail)
            all_goals go_wp2_with fail
            go_ret
            exact ⟨ret_bool (by rw [← HG.out]; exact (anyOf_true hlt (by simp [spOutside, spBeyond] <;> omega)).symm), Keeps.trans Hkk.out (by (repeat' with_reducible (first | exact Keeps.refl _ _ | assumption | apply Keeps.drew | apply Keeps.drewN | apply Keeps.alloc | refine Keeps.trans ?_ hk1 | refine Keeps.trans ?_ hk2 | refine Keeps.trans ?_ hk3 | refine Keeps.trans ?_ hk4)))⟩
          · have p3' : decide (c.l0 < c.win0 i 1) = false := by simpa using p3
            have hws : IntKind.i64.wrap (c.l0 - c.win0 i 1) = c.l0 - c.win0 i 1 := by simp [IntKind.wrap, IntKind.bits, IntKind.signed]; omega
            by_cases p4 : c.l0 - c.win0 i 1 < c.win0 i 2
            · have p4' : decide (c.l0 - c.win0 i 1 < c.win0 i 2) = true := by simpa using p4
              go_wp2_with fail
              all_goals go_quiet (fail)
              all_goals go_wp2_with fail
              go_ret
              exact ⟨ret_bool (by rw [← HG.out]; exact (anyOf_true hlt (by simp [spOutside, spBeyond] <;> omega)).symm), Keeps.trans Hkk.out (by (repeat' with_reducible (first | exact Keeps.refl _ _ | assumption | apply Keeps.drew | apply Keeps.drewN | apply Keeps.alloc | refine Keeps.trans ?_ hk1 | refine Keeps.trans ?_ hk2 | refine Keeps.trans ?_ hk3 | refine Keeps.trans ?_ hk4)))⟩
            · have p4' : decide (c.l0 - c.win0 i 1 < c.win0 i 2) = false := by simpa using p4
              go_wp2_with fail
              all_goals go_quiet (fail)
              all_goals go_wp2_with fail
              all_goals go_quiet (fail)
              all_goals go_wp2_with fail
              first | (rw [← hwa]; go_roundw) | go_roundw | (refine ⟨?rel, ?measure⟩)
              case rel =>
                refine ⟨i + 1, by omega, by go_num, ?_, Keeps.trans Hk0.out (by (repeat' with_reducible (first | exact Keeps.refl _ _ | assumption | apply Keeps.drew | apply Keeps.drewN | apply Keeps.alloc | refine Keeps.trans ?_ hk1 | refine Keeps.trans ?_ hk2 | refine Keeps.trans ?_ hk3 | refine Keeps.trans ?_ hk4)))⟩
                intro j hj
                by_cases ej : j = i
                · rw [ej]; simp [spOutside, spBeyond] <;> omega
                · exact Hg.out j (by omega)
              case measure => simp [intOf]; omega
    · go_wp2
      go_ret
      exact ⟨ret_bool (by rw [← HG.out]; exact (anyOf_false fun j hj => Hg.out j (by omega)).symm), Hkk.out⟩


set_option maxRecDepth 100000 in
set_option maxHeartbeats 4000000 in
theorem refWindows_15_1 (c : CfgV) (w : World) (h : CfgAt w c) :
    Calls Try.prog 44 #[.agg c.cells, .int .i64 1, .int .i64 15] w (Says (.bool (anyOf (fun i => spOutside (c.win1 i 1) (c.win1 i 2) c.l1) c.w1n)) w) := by
  have hpn := h.pn
  have hwn := h.w1n
  have hl := h.l1.lo
  have hl' := h.l1.hi
  have Hc := Lib.hid h
  clear h
  generalize hG : (anyOf (fun i => spOutside (c.win1 i 1) (c.win1 i 2) c.l1) c.w1n) = G
  have HG := Lib.hid hG
  clear hG

  have hx0 : ∀ i j, I64 (c.win1 i j) := Hc.out.win1
  have Hx0 := Lib.hid hx0
  clear hx0
  simp only [CfgV.cells]
  go_enter Try.func44, Try.ntmps44
  go_wp2_with fail
  go_loopw [8] (fun v wr => ∃ i : Nat, i ≤ c.w1n ∧ v = .int .i64 i ∧ (∀ j, j < i → (fun i => spOutside (c.win1 i 1) (c.win1 i 2) c.l1) j = false) ∧ Keeps [] (w.alloc (.cells c.cells 31)) wr) (fun v _ => c.w1n - (intOf v).toNat)
  case atStart => exact ⟨0, Nat.zero_le _, rfl, by intro j hj; omega, Keeps.refl _ _⟩
  case round =>
    obtain ⟨i, hi, rfl, hg0, hk⟩ := hrel
    have Hg := Lib.hid hg0
    clear hg0
    have hbx : Blk wr w.heap.size c.cells 31 := (Blk.new _ _ _).keep hk (by simp)
    have hbl := hbx.lt
    have hbc := hbx.cell
    have Hk0 := Lib.hid hk
    have Hkk := Lib.hid (Keeps.trans (by (repeat' with_reducible (first | exact Keeps.refl _ _ | assumption | apply Keeps.drew | apply Keeps.drewN | apply Keeps.alloc))) hk : Keeps [] w wr)
    by_cases hlt : i < c.w1n
    · obtain ⟨b, o, hwa, hb, hrow⟩ := Hc.out.wins1.resolve_left (by omega)
      have hi0 : (0 : Int) ≤ (i : Int) := Int.natCast_nonneg _
      have hi1 : (i : Int) < (c.w1n : Int) := by omega
      have hbr : b < wr.heap.size := by have := hk.size; simp at this; omega
      have hbr1 : b < wr.heap.size + 1 := by omega
      have hk := Hkk.out
      have c0 : wr.cell? ⟨b, o + i * 3, none⟩ = some (.int .i64 (c.win1 i 0)) := (Keeps.cell hk hb (by simp)).trans (by simpa [i64s] using hrow i hlt 0 (by omega))
      have c1 : wr.cell? ⟨b, o + i * 3 + 1, none⟩ = some (.int .i64 (c.win1 i 1)) := (Keeps.cell hk hb (by simp)).trans (hrow i hlt 1 (by omega))
      have c2 : wr.cell? ⟨b, o + i * 3 + 2, none⟩ = some (.int .i64 (c.win1 i 2)) := (Keeps.cell hk hb (by simp)).trans (hrow i hlt 2 (by omega))
      have Hrow := Lib.hid hrow
      have e1 := Hx0.out i 1
      have e2 := Hx0.out i 2
      have e10 := e1.lo
      have e11 := e1.hi
      have e20 := e2.lo
      have e21 := e2.hi
      clear hrow hk e1 e2
      by_cases p1 : c.win1 i 1 < 0
      · have p1' : decide (c.win1 i 1 < 0) = true := by simpa using p1
        go_wp2_with fail
        all_goals go_quiet (fail)
        all_goals go_wp2_with fail
        go_ret
        exact ⟨ret_bool (by rw [← HG.out]; exact (anyOf_true hlt (by simp [spOutside, spBeyond] <;> omega)).symm), Keeps.trans Hkk.out (by (repeat' with_reducible (first | exact Keeps.refl _ _ | assumption | apply Keeps.drew | apply Keeps.drewN | apply Keeps.alloc | refine Keeps.trans ?_ hk1 | refine Keeps.trans ?_ hk2 | refine Keeps.trans ?_ hk3 | refine Keeps.trans ?_ hk4)))⟩
      · have p1' : decide (c.win1 i 1 < 0) = false := by simpa using p1
        by_cases p2 : c.win1 i 2 < 1
        · have p2' : decide (c.win1 i 2 < 1) = true := by simpa using p2
          go_wp2_with fail
          all_goals go_quiet (fail)
          all_goals go_wp2_with fail
          go_ret
          exact ⟨ret_bool (by rw [← HG.out]; exact (anyOf_true hlt (by simp [spOutside, spBeyond] <;> omega)).symm), Keeps.trans Hkk.out (by (repeat' with_reducible (first | exact Keeps.refl _ _ | assumption | apply Keeps.drew | apply Keeps.drewN | apply Keeps.alloc | refine Keeps.trans ?_ hk1 | refine Keeps.trans ?_ hk2 | refine Keeps.trans ?_ hk3 | refine Keeps.trans ?_ hk4)))⟩
        · have p2' : decide (c.win1 i 2 < 1) = false := by simpa using p2
          by_cases p3 : c.l1 < c.win1 i 1
          · have p3' : decide (c.l1 < c.win1 i 1) = true := by simpa using p3
            go_wp2_with fail
            all_goals go_quiet (fail)
            all_goals go_wp2_with fail
            go_ret
            exact ⟨ret_bool (by rw [← HG.out]; exact (anyOf_true hlt (by simp [spOutside, spBeyond] <;> omega)).symm), Keeps.trans Hkk.out (by (repeat' with_reducible (first | exact Keeps.refl _ _ | assumption | apply Keeps.drew | apply Keeps.drewN | apply Keeps.alloc | refine Keeps.trans ?_ hk1 | refine Keeps.trans ?_ hk2 | refine Keeps.trans ?_ hk3 | refine Keeps.trans ?_ hk4)))⟩
          · have p3' : decide (c.l1 < c.win1 i 1) = false := by simpa using p3
            have hws : IntKind.i64.wrap (c.l1 - c.win1 i 1) = c.l1 - c.win1 i 1 := by simp [IntKind.wrap, IntKind.bits, IntKind.signed]; omega
            by_cases p4 : c.l1 - c.win1 i 1 < c.win1 i 2
            · have p4' : decide (c.l1 - c.win1 i 1 < c.win1 i 2) = true := by simpa using p4
              go_wp2_with fail
              all_goals go_quiet (fail)
              all_goals go_wp2_with fail
              go_ret
              exact ⟨ret_bool (by rw [← HG.out]; exact (anyOf_true hlt (by simp [spOutside, spBeyond] <;> omega)).symm), Keeps.trans Hkk.out (by (repeat' with_reducible (first | exact Keeps.refl _ _ | assumption | apply Keeps.drew | apply Keeps.drewN | apply Keeps.alloc | refine Keeps.trans ?_ hk1 | refine Keeps.trans ?_ hk2 | refine Keeps.trans ?_ hk3 | refine Keeps.trans ?_ hk4)))⟩
            · have p4' : decide (c.l1 - c.win1 i 1 < c.win1 i 2) = false := by simpa using p4
              go_wp2_with fail
              all_goals go_quiet (fail)
              all_goals go_wp2_with fail
              all_goals go_quiet (fail)
              all_goals go_wp2_with fail
              first | (rw [← hwa]; go_roundw) | go_roundw | (refine ⟨?rel, ?measure⟩)
              case rel =>
                refine ⟨i + 1, by omega, by go_num, ?_, Keeps.trans Hk0.out (by (repeat' with_reducible (first | exact Keeps.refl _ _ | assumption | apply Keeps.drew | apply Keeps.drewN | apply Keeps.alloc | refine Keeps.trans ?_ hk1 | refine Keeps.trans ?_ hk2 | refine Keeps.trans ?_ hk3 | refine Keeps.trans ?_ hk4)))⟩
                intro j hj
                by_cases ej : j = i
                · rw [ej]; simp [spOutside, spBeyond] <;> omega
                · exact Hg.out j (by omega)
              case measure => simp [intOf]; omega
    · go_wp2
      go_ret
      exact ⟨ret_bool (by rw [← HG.out]; exact (anyOf_false fun j hj => Hg.out j (by omega)).symm), Hkk.out⟩

end Go.Proofs.Ytpkjffiajidfcaa
