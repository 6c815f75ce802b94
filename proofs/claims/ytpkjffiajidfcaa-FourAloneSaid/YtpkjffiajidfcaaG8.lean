/- windows of package portholeref07, number 16. -/
import Derived.Test.YtpkjffiajidfcaaG7
set_option linter.all false
set_option linter.unusedVariables false
set_option linter.unusedSimpArgs false

namespace Go.Proofs.Ytpkjffiajidfcaa
open Go.RowKit


set_option maxRecDepth 100000 in
set_option maxHeartbeats 40000000 in
theorem refWindows_16_1 (c : CfgV) (w : World) (h : CfgAt w c) :
    Calls Try.prog 44 #[.agg c.cells, .int .i64 1, .int .i64 16] w (Says (.bool (spCrossed c.win1 c.w1n)) w) := by
  have hpn := h.pn
  have hwn := h.w1n
  have hl := h.l1.lo
  have hl' := h.l1.hi
  have Hc := Lib.hid h
  clear h
  generalize hG : (spCrossed c.win1 c.w1n) = G
  have HG := Lib.hid hG
  clear hG

  have hx0 : ∀ i j, I64 (c.win1 i j) := Hc.out.win1
  have Hx0 := Lib.hid hx0
  clear hx0
  simp only [CfgV.cells]
  go_enter Try.func44, Try.ntmps44
  go_wp2_with fail
  go_loopw [8] (fun v wr => ∃ i : Nat, i ≤ c.w1n ∧ v = .int .i64 i ∧ (∀ j, j < i - 1 → (fun i => spCross c.win1 i) j = false) ∧ Keeps [] (w.alloc (.cells c.cells 31)) wr) (fun v _ => c.w1n - (intOf v).toNat)
  case atStart => exact ⟨0, Nat.zero_le _, rfl, by intro j hj; omega, Keeps.refl _ _⟩
  case round =>
    obtain ⟨i, hi, rfl, hg0, hk⟩ := hrel
    have Hg := Lib.hid hg0
    clear hg0
    have hbx : Blk wr w.heap.size c.cells 31 := (Blk.new _ _ _).keep hk (by simp)
    have hbl := hbx.lt
    have hbc := hbx.cell
    have Hk0 := Lib.hid hk
    have Hkk := Lib.hid (Keeps.trans (by (repeat' with_reducible (first | exact Keeps.refl _ _ | assumption | apply Keeps.drew | apply Keeps.drewN | apply Keeps.alloc))) hk : Keeps [] w wr)
    by_cases hlt : i < c.w1n
    · obtain ⟨b, o, hwa, hb, hrow⟩ := Hc.out.wins1.resolve_left (by omega)
      have hi0 : (0 : Int) ≤ (i : Int) := Int.natCast_nonneg _
      have hi1 : (i : Int) < (c.w1n : Int) := by omega
      have hbr : b < wr.heap.size := by have := hk.size; simp at this; omega
      have hbr1 : b < wr.heap.size + 1 := by omega
      have hk := Hkk.out
      have c0 : wr.cell? ⟨b, o + i * 3, none⟩ = some (.int .i64 (c.win1 i 0)) := (Keeps.cell hk hb (by simp)).trans (by simpa [i64s] using hrow i hlt 0 (by omega))
      have c1 : wr.cell? ⟨b, o + i * 3 + 1, none⟩ = some (.int .i64 (c.win1 i 1)) := (Keeps.cell hk hb (by simp)).trans (hrow i hlt 1 (by omega))
      have c2 : wr.cell? ⟨b, o + i * 3 + 2, none⟩ = some (.int .i64 (c.win1 i 2)) := (Keeps.cell hk hb (by simp)).trans (hrow i hlt 2 (by omega))
      have Hrow := Lib.hid hrow
      have e1 := Hx0.out i 1
      have e2 := Hx0.out i 2
      have e10 := e1.lo
      have e11 := e1.hi
      have e20 := e2.lo
      have e21 := e2.hi
      clear hrow hk e1 e2
      by_cases hz : i = 0
      · have hz1 : ¬ (0 : Int) < (i : Int) := by omega
        have hz2 : decide ((0 : Int) < (i : Int)) = false := by simpa using hz
        have hz3 : ¬ 0 < i := by omega
        have hz4 : decide (0 < i) = false := by simpa using hz
        have Hz := Lib.hid hz
        clear hz
        go_wp2_with fail
        all_goals go_quiet (fail)
        all_goals go_wp2_with fail
        all_goals go_quiet (fail)
        all_goals go_wp2_with fail
        first | ((try rw [← hpa]); rw [← hwa]; go_roundw) | ((try rw [← hpa]); go_roundw) | go_roundw | (refine ⟨?rel, ?measure⟩)
        case rel =>
          refine ⟨i + 1, by omega, by go_num, ?_, Keeps.trans Hk0.out (by (repeat' with_reducible (first | exact Keeps.refl _ _ | assumption | apply Keeps.drew | apply Keeps.drewN | apply Keeps.alloc | refine Keeps.trans ?_ hk1 | refine Keeps.trans ?_ hk2 | refine Keeps.trans ?_ hk3 | refine Keeps.trans ?_ hk4)))⟩
          intro j hj
          by_cases ej : j = i - 1
          · rw [ej]; have := Hz.out; omega
          · exact Hg.out j (by omega)
        case measure => simp [intOf]; omega
      · obtain ⟨m, rfl⟩ : ∃ m, i = m + 1 := ⟨i - 1, by omega⟩
        clear hz
        have hz1 : (0 : Int) < (m : Int) + 1 := by omega
        have hi2 : (m : Int) < (c.w1n : Int) := by omega
        have hw1 : IntKind.i64.wrap ((m : Int) + 1 - 1) = (m : Int) := by rw [Int.add_sub_cancel]; exact wrap_i64m (by omega) (by omega)
        have hw2 : IntKind.i64.wrap (m : Int) = (m : Int) := wrap_i64m (by omega) (by omega)
        have hnat : ((m : Int) + 1).toNat = m + 1 := by omega
        have hm0 : (0 : Int) ≤ (m : Int) := Int.natCast_nonneg _
        have hi3 : (0 : Int) ≤ (m : Int) + 1 := by omega
        have hi4 : (m : Int) + 1 < (c.w1n : Int) := by omega
        have m1 : wr.cell? ⟨b, o + m * 3 + 1, none⟩ = some (.int .i64 (c.win1 m 1)) := (Keeps.cell Hkk.out hb (by simp)).trans (Hrow.out m (by omega) 1 (by omega))
        have m2 : wr.cell? ⟨b, o + m * 3 + 2, none⟩ = some (.int .i64 (c.win1 m 2)) := (Keeps.cell Hkk.out hb (by simp)).trans (Hrow.out m (by omega) 2 (by omega))
        cases hp1 : inR (c.win1 (m + 1) 1) 0 4294967295
        · have P1 := Lib.hid hp1
          go_wp2_with fail
          all_goals go_quiet (fail)
          all_goals go_wp2_with fail
          all_goals go_quiet (first | (go_at_call 54; (refine (refWord_is hp1 _).mono ?_; rintro e w' ⟨rfl, rfl⟩; refine ⟨rfl, ?_⟩; first | exact ⟨_, rfl⟩ | exact ⟨_, (World.drewN_drewN _ _ _).symm⟩)) | (fail))
          all_goals go_wp2_with fail
          first | ((try rw [← hpa]); rw [← hwa]; go_roundw) | ((try rw [← hpa]); go_roundw) | go_roundw | (refine ⟨?rel, ?measure⟩)
          case rel =>
            refine ⟨m + 1 + 1, by omega, by go_num, ?_, Keeps.trans Hk0.out (by (repeat' with_reducible (first | exact Keeps.refl _ _ | assumption | apply Keeps.drew | apply Keeps.drewN | apply Keeps.alloc | refine Keeps.trans ?_ hk1 | refine Keeps.trans ?_ hk2 | refine Keeps.trans ?_ hk3 | refine Keeps.trans ?_ hk4)))⟩
            intro j hj
            by_cases ej : j = m
            · rw [ej]; (try have P1 := P1.out); (try have P2 := P2.out); (try have P3 := P3.out); (try have P4 := P4.out); unfold spCross spSmall; simp [anyOf, List.range_succ, *]
            · exact Hg.out j (by omega)
          case measure => simp [intOf]; omega
        · have P1 := Lib.hid hp1
          cases hp2 : inR (c.win1 m 1) 0 4294967295
          · have P2 := Lib.hid hp2
            go_wp2_with fail
            all_goals go_quiet (fail)
            all_goals go_wp2_with fail
            all_goals go_quiet (first | (go_at_call 54; (refine (refWord_is hp1 _).mono ?_; rintro e w' ⟨rfl, rfl⟩; refine ⟨rfl, ?_⟩; first | exact ⟨_, rfl⟩ | exact ⟨_, (World.drewN_drewN _ _ _).symm⟩)) | (go_at_call 54; (refine (refWord_is hp2 _).mono ?_; rintro e w' ⟨rfl, rfl⟩; refine ⟨rfl, ?_⟩; first | exact ⟨_, rfl⟩ | exact ⟨_, (World.drewN_drewN _ _ _).symm⟩)) | (fail))
            all_goals go_wp2_with fail
            first | ((try rw [← hpa]); rw [← hwa]; go_roundw) | ((try rw [← hpa]); go_roundw) | go_roundw | (refine ⟨?rel, ?measure⟩)
            case rel =>
              refine ⟨m + 1 + 1, by omega, by go_num, ?_, Keeps.trans Hk0.out (by (repeat' with_reducible (first | exact Keeps.refl _ _ | assumption | apply Keeps.drew | apply Keeps.drewN | apply Keeps.alloc | refine Keeps.trans ?_ hk1 | refine Keeps.trans ?_ hk2 | refine Keeps.trans ?_ hk3 | refine Keeps.trans ?_ hk4)))⟩
              intro j hj
              by_cases ej : j = m
              · rw [ej]; (try have P1 := P1.out); (try have P2 := P2.out); (try have P3 := P3.out); (try have P4 := P4.out); unfold spCross spSmall; simp [anyOf, List.range_succ, *]
              · exact Hg.out j (by omega)
            case measure => simp [intOf]; omega
          · have P2 := Lib.hid hp2
            cases hp3 : inR (c.win1 m 2) 0 4294967295
            · have P3 := Lib.hid hp3
              go_wp2_with fail
              all_goals go_quiet (fail)
              all_goals go_wp2_with fail
              all_goals go_quiet (first | (go_at_call 54; (refine (refWord_is hp1 _).mono ?_; rintro e w' ⟨rfl, rfl⟩; refine ⟨rfl, ?_⟩; first | exact ⟨_, rfl⟩ | exact ⟨_, (World.drewN_drewN _ _ _).symm⟩)) | (go_at_call 54; (refine (refWord_is hp2 _).mono ?_; rintro e w' ⟨rfl, rfl⟩; refine ⟨rfl, ?_⟩; first | exact ⟨_, rfl⟩ | exact ⟨_, (World.drewN_drewN _ _ _).symm⟩)) | (go_at_call 54; (refine (refWord_is hp3 _).mono ?_; rintro e w' ⟨rfl, rfl⟩; refine ⟨rfl, ?_⟩; first | exact ⟨_, rfl⟩ | exact ⟨_, (World.drewN_drewN _ _ _).symm⟩)) | (fail))
              all_goals go_wp2_with fail
              first | ((try rw [← hpa]); rw [← hwa]; go_roundw) | ((try rw [← hpa]); go_roundw) | go_roundw | (refine ⟨?rel, ?measure⟩)
              case rel =>
                refine ⟨m + 1 + 1, by omega, by go_num, ?_, Keeps.trans Hk0.out (by (repeat' with_reducible (first | exact Keeps.refl _ _ | assumption | apply Keeps.drew | apply Keeps.drewN | apply Keeps.alloc | refine Keeps.trans ?_ hk1 | refine Keeps.trans ?_ hk2 | refine Keeps.trans ?_ hk3 | refine Keeps.trans ?_ hk4)))⟩
                intro j hj
                by_cases ej : j = m
                · rw [ej]; (try have P1 := P1.out); (try have P2 := P2.out); (try have P3 := P3.out); (try have P4 := P4.out); unfold spCross spSmall; simp [anyOf, List.range_succ, *]
                · exact Hg.out j (by omega)
              case measure => simp [intOf]; omega
            · have P3 := Lib.hid hp3
              have b1a : 0 ≤ c.win1 (m + 1) 1 ∧ c.win1 (m + 1) 1 ≤ 4294967295 := by have := P1.out; simp [inR] at this; omega
              have b2a : 0 ≤ c.win1 m 1 ∧ c.win1 m 1 ≤ 4294967295 := by have := P2.out; simp [inR] at this; omega
              have b3a : 0 ≤ c.win1 m 2 ∧ c.win1 m 2 ≤ 4294967295 := by have := P3.out; simp [inR] at this; omega
              have hws : IntKind.i64.wrap (c.win1 m 1 + c.win1 m 2) = c.win1 m 1 + c.win1 m 2 := wrap_i64m (by omega) (by omega)
              by_cases p4 : c.win1 (m + 1) 1 < c.win1 m 1 + c.win1 m 2
              · have P4 := Lib.hid p4
                go_wp2_with fail
                all_goals go_quiet (fail)
                all_goals go_wp2_with fail
                all_goals go_quiet (first | (go_at_call 54; (refine (refWord_is hp1 _).mono ?_; rintro e w' ⟨rfl, rfl⟩; refine ⟨rfl, ?_⟩; first | exact ⟨_, rfl⟩ | exact ⟨_, (World.drewN_drewN _ _ _).symm⟩)) | (go_at_call 54; (refine (refWord_is hp2 _).mono ?_; rintro e w' ⟨rfl, rfl⟩; refine ⟨rfl, ?_⟩; first | exact ⟨_, rfl⟩ | exact ⟨_, (World.drewN_drewN _ _ _).symm⟩)) | (go_at_call 54; (refine (refWord_is hp3 _).mono ?_; rintro e w' ⟨rfl, rfl⟩; refine ⟨rfl, ?_⟩; first | exact ⟨_, rfl⟩ | exact ⟨_, (World.drewN_drewN _ _ _).symm⟩)) | (fail))
                all_goals go_wp2_with fail
                go_ret
                exact ⟨ret_bool (by rw [← HG.out]; exact (anyOf_true (i := m) (by omega) (by (try have P1 := P1.out); (try have P2 := P2.out); (try have P3 := P3.out); (try have P4 := P4.out); unfold spCross spSmall; simp [anyOf, List.range_succ, *])).symm), Keeps.trans Hkk.out (by (repeat' with_reducible (first | exact Keeps.refl _ _ | assumption | apply Keeps.drew | apply Keeps.drewN | apply Keeps.alloc | refine Keeps.trans ?_ hk1 | refine Keeps.trans ?_ hk2 | refine Keeps.trans ?_ hk3 | refine Keeps.trans ?_ hk4)))⟩
              · have P4 := Lib.hid p4
                go_wp2_with fail
                all_goals go_quiet (fail)
                all_goals go_wp2_with fail
                all_goals go_quiet (first | (go_at_call 54; (refine (refWord_is hp1 _).mono ?_; rintro e w' ⟨rfl, rfl⟩; refine ⟨rfl, ?_⟩; first | exact ⟨_, rfl⟩ | exact ⟨_, (World.drewN_drewN _ _ _).symm⟩)) | (go_at_call 54; (refine (refWord_is hp2 _).mono ?_; rintro e w' ⟨rfl, rfl⟩; refine ⟨rfl, ?_⟩; first | exact ⟨_, rfl⟩ | exact ⟨_, (World.drewN_drewN _ _ _).symm⟩)) | (go_at_call 54; (refine (refWord_is hp3 _).mono ?_; rintro e w' ⟨rfl, rfl⟩; refine ⟨rfl, ?_⟩; first | exact ⟨_, rfl⟩ | exact ⟨_, (World.drewN_drewN _ _ _).symm⟩)) | (fail))
                all_goals go_wp2_with fail
                first | ((try rw [← hpa]); rw [← hwa]; go_roundw) | ((try rw [← hpa]); go_roundw) | go_roundw | (refine ⟨?rel, ?measure⟩)
                case rel =>
                  refine ⟨m + 1 + 1, by omega, by go_num, ?_, Keeps.trans Hk0.out (by (repeat' with_reducible (first | exact Keeps.refl _ _ | assumption | apply Keeps.drew | apply Keeps.drewN | apply Keeps.alloc | refine Keeps.trans ?_ hk1 | refine Keeps.trans ?_ hk2 | refine Keeps.trans ?_ hk3 | refine Keeps.trans ?_ hk4)))⟩
                  intro j hj
                  by_cases ej : j = m
                  · rw [ej]; (try have P1 := P1.out); (try have P2 := P2.out); (try have P3 := P3.out); (try have P4 := P4.out); unfold spCross spSmall; simp [anyOf, List.range_succ, *]
                  · exact Hg.out j (by omega)
                case measure => simp [intOf]; omega
    · go_wp2
      go_ret
      exact ⟨ret_bool (by rw [← HG.out]; exact (anyOf_false fun j hj => Hg.out j (by omega)).symm), Hkk.out⟩

end Go.Proofs.Ytpkjffiajidfcaa
