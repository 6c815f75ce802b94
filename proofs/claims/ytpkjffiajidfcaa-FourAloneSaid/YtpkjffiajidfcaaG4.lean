/- part, word, chans of package portholeref07. -/
import Derived.Test.YtpkjffiajidfcaaG3
set_option linter.all false
set_option linter.unusedVariables false
set_option linter.unusedSimpArgs false

namespace Go.Proofs.Ytpkjffiajidfcaa
open Go.RowKit

theorem inR_and (n lo hi : Int) : (decide (lo ≤ n) && decide (n ≤ hi)) = inR n lo hi := rfl

set_option maxRecDepth 100000 in
theorem refPart_any (c : CfgV) (p : Int) (w : World) (hn : c.pn ≤ 140737488351232) :
    Calls Try.prog 53 #[.agg c.cells, .int .i64 p] w (Says (.bool (inR p 0 (c.pn - 1))) w) := by
  simp only [CfgV.cells]
  by_cases h0 : 0 ≤ p
  · by_cases h1 : p < (c.pn : Int)
    · have e : inR p 0 (c.pn - 1) = true := by simp [inR]; omega
      rw [e]
      clear e
      go_enter Try.func53, Try.ntmps53
      go_wp2
      go_ret
      exact ⟨ret_bool (by simp [*]), by (repeat' with_reducible (first | exact Keeps.refl _ _ | assumption | apply Keeps.drew | apply Keeps.drewN | apply Keeps.alloc))⟩
    · have e : inR p 0 (c.pn - 1) = false := by simp [inR]; omega
      rw [e]
      clear e
      go_enter Try.func53, Try.ntmps53
      go_wp2
      go_ret
      exact ⟨ret_bool (by simp <;> omega), by (repeat' with_reducible (first | exact Keeps.refl _ _ | assumption | apply Keeps.drew | apply Keeps.drewN | apply Keeps.alloc))⟩
  · have e : inR p 0 (c.pn - 1) = false := by simp [inR]; omega
    rw [e]
    clear e
    go_enter Try.func53, Try.ntmps53
    go_wp2
    go_ret
    exact ⟨ret_bool (by simp <;> omega), by (repeat' with_reducible (first | exact Keeps.refl _ _ | assumption | apply Keeps.drew | apply Keeps.drewN | apply Keeps.alloc))⟩

theorem refWord_any (p : Int) (w : World) :
    Calls Try.prog 54 #[.int .i64 p] w (Says (.bool (inR p 0 4294967295)) w) := by
  by_cases h0 : 0 ≤ p
  · by_cases h1 : p ≤ 4294967295
    · have e : inR p 0 4294967295 = true := by simp [inR]; omega
      rw [e]
      clear e
      go_enter Try.func54, Try.ntmps54
      go_wp2
      go_ret
      exact ⟨ret_bool (by simp [*]), by (repeat' with_reducible (first | exact Keeps.refl _ _ | assumption | apply Keeps.drew | apply Keeps.drewN | apply Keeps.alloc))⟩
    · have e : inR p 0 4294967295 = false := by simp [inR]; omega
      rw [e]
      clear e
      go_enter Try.func54, Try.ntmps54
      go_wp2
      go_ret
      exact ⟨ret_bool (by simp <;> omega), by (repeat' with_reducible (first | exact Keeps.refl _ _ | assumption | apply Keeps.drew | apply Keeps.drewN | apply Keeps.alloc))⟩
  · have e : inR p 0 4294967295 = false := by simp [inR]; omega
    rw [e]
    clear e
    go_enter Try.func54, Try.ntmps54
    go_wp2
    go_ret
    exact ⟨ret_bool (by simp <;> omega), by (repeat' with_reducible (first | exact Keeps.refl _ _ | assumption | apply Keeps.drew | apply Keeps.drewN | apply Keeps.alloc))⟩

end Go.Proofs.Ytpkjffiajidfcaa

/- chans of package portholeref07. -/
namespace Go.Proofs.Ytpkjffiajidfcaa
open Go.RowKit


set_option maxRecDepth 100000 in
set_option maxHeartbeats 4000000 in
theorem refChans_5 (c : CfgV) (w : World) (h : CfgAt w c) :
    Calls Try.prog 43 #[.agg c.cells, .int .i64 5] w (Says (.bool (spRule c 4)) w) := by
  have hpn := h.pn
  have hcn := h.cn
  have Hc := Lib.hid h
  clear h
  generalize hG : spRule c 4 = G
  have HG := Lib.hid (hG : anyOf (fun i => c.chan i 0 != 1 && c.chan i 0 != 2) c.cn = G)
  clear hG
  simp only [CfgV.cells]
  go_enter Try.func43, Try.ntmps43
  go_wp2_with fail
  go_loopw [5] (fun v wr => ∃ i : Nat, i ≤ c.cn ∧ v = .int .i64 i ∧ (∀ j, j < i → (fun i => c.chan i 0 != 1 && c.chan i 0 != 2) j = false) ∧ Keeps [] (w.alloc (.cells c.cells 31)) wr) (fun v _ => c.cn - (intOf v).toNat)
  case atStart => exact ⟨0, Nat.zero_le _, rfl, by intro j hj; omega, Keeps.refl _ _⟩
  case round =>
    obtain ⟨i, hi, rfl, hg0, hk⟩ := hrel
    have Hg := Lib.hid hg0
    clear hg0
    have hbx : Blk wr w.heap.size c.cells 31 := (Blk.new _ _ _).keep hk (by simp)
    have hbl := hbx.lt
    have hbc := hbx.cell
    have Hk0 := Lib.hid hk
    have Hkk := Lib.hid (Keeps.trans (by (repeat' with_reducible (first | exact Keeps.refl _ _ | assumption | apply Keeps.drew | apply Keeps.drewN | apply Keeps.alloc))) hk : Keeps [] w wr)
    by_cases hlt : i < c.cn
    · obtain ⟨b, o, hca, hb, hrow⟩ := Hc.out.chans.resolve_left (by omega)
      have hi0 : (0 : Int) ≤ (i : Int) := Int.natCast_nonneg _
      have hi1 : (i : Int) < (c.cn : Int) := by omega
      have hbr : b < wr.heap.size := by have := hk.size; simp at this; omega
      have hk := Hkk.out
      have c0 : wr.cell? ⟨b, o + i * 7, none⟩ = some (.int .i64 (c.chan i 0)) := (Keeps.cell hk hb (by simp)).trans (by simpa [chs] using hrow i hlt 0 (by omega))
      have c1 : wr.cell? ⟨b, o + i * 7 + 1, none⟩ = some (.int .i64 (c.chan i 1)) := (Keeps.cell hk hb (by simp)).trans (by simpa [chs] using hrow i hlt 1 (by omega))
      have c2 : wr.cell? ⟨b, o + i * 7 + 2, none⟩ = some (.int .i64 (c.chan i 2)) := (Keeps.cell hk hb (by simp)).trans (by simpa [chs] using hrow i hlt 2 (by omega))
      have c3 : wr.cell? ⟨b, o + i * 7 + 3, none⟩ = some (.int .i64 (c.chan i 3)) := (Keeps.cell hk hb (by simp)).trans (by simpa [chs] using hrow i hlt 3 (by omega))
      have c4 : wr.cell? ⟨b, o + i * 7 + 4, none⟩ = some (.int .i64 (c.chan i 4)) := (Keeps.cell hk hb (by simp)).trans (by simpa [chs] using hrow i hlt 4 (by omega))
      have c5 : wr.cell? ⟨b, o + i * 7 + 5, none⟩ = some (.int .i64 (c.chan i 5)) := (Keeps.cell hk hb (by simp)).trans (by simpa [chs] using hrow i hlt 5 (by omega))
      have c6 : wr.cell? ⟨b, o + i * 7 + 6, none⟩ = some (.int .u32 (c.chan i 6)) := (Keeps.cell hk hb (by simp)).trans (by simpa [chs] using hrow i hlt 6 (by omega))
      clear hrow hk
      by_cases p1 : c.chan i 0 = 1
      · have P1 := Lib.hid p1
        have q1 : (c.chan i 0 == 1) = true := by simpa using p1
        have r1 : (c.chan i 0 != 1) = false := by simpa using p1
        clear p1
        go_wp2_with fail
        first | (rw [← hca]; go_roundw) | go_roundw | (refine ⟨?rel, ?measure⟩)
        case rel =>
          refine ⟨i + 1, by omega, by go_num, ?_, Keeps.trans Hk0.out (by (repeat' with_reducible (first | exact Keeps.refl _ _ | assumption | apply Keeps.drew | apply Keeps.drewN | apply Keeps.alloc | refine Keeps.trans ?_ hk1 | refine Keeps.trans ?_ hk2 | refine Keeps.trans ?_ hk3 | refine Keeps.trans ?_ hk4)))⟩
          intro j hj
          by_cases ej : j = i
          · rw [ej]; (try have P1 := P1.out); (try have P2 := P2.out); (try have P3 := P3.out); (try have P4 := P4.out); (try have P5 := P5.out); (try have P6 := P6.out); simp [inR, spDeep, spFresh, *] <;> omega
          · exact Hg.out j (by omega)
        case measure => simp [intOf]; omega
      · have P1 := Lib.hid p1
        have q1 : (c.chan i 0 == 1) = false := by simpa using p1
        have r1 : (c.chan i 0 != 1) = true := by simpa using p1
        clear p1
        by_cases p2 : c.chan i 0 = 2
        · have P2 := Lib.hid p2
          have q2 : (c.chan i 0 == 2) = true := by simpa using p2
          have r2 : (c.chan i 0 != 2) = false := by simpa using p2
          clear p2
          go_wp2_with fail
          first | (rw [← hca]; go_roundw) | go_roundw | (refine ⟨?rel, ?measure⟩)
          case rel =>
            refine ⟨i + 1, by omega, by go_num, ?_, Keeps.trans Hk0.out (by (repeat' with_reducible (first | exact Keeps.refl _ _ | assumption | apply Keeps.drew | apply Keeps.drewN | apply Keeps.alloc | refine Keeps.trans ?_ hk1 | refine Keeps.trans ?_ hk2 | refine Keeps.trans ?_ hk3 | refine Keeps.trans ?_ hk4)))⟩
            intro j hj
            by_cases ej : j = i
            · rw [ej]; (try have P1 := P1.out); (try have P2 := P2.out); (try have P3 := P3.out); (try have P4 := P4.out); (try have P5 := P5.out); (try have P6 := P6.out); simp [inR, spDeep, spFresh, *] <;> omega
            · exact Hg.out j (by omega)
          case measure => simp [intOf]; omega
        · have P2 := Lib.hid p2
          have q2 : (c.chan i 0 == 2) = false := by simpa using p2
          have r2 : (c.chan i 0 != 2) = true := by simpa using p2
          clear p2
          go_wp2_with fail
          go_ret
          exact ⟨ret_bool (by rw [← HG.out]; exact (anyOf_true hlt (by (try have P1 := P1.out); (try have P2 := P2.out); (try have P3 := P3.out); (try have P4 := P4.out); (try have P5 := P5.out); (try have P6 := P6.out); simp [inR, spDeep, spFresh, *] <;> omega)).symm), Keeps.trans Hkk.out (by (repeat' with_reducible (first | exact Keeps.refl _ _ | assumption | apply Keeps.drew | apply Keeps.drewN | apply Keeps.alloc | refine Keeps.trans ?_ hk1 | refine Keeps.trans ?_ hk2 | refine Keeps.trans ?_ hk3 | refine Keeps.trans ?_ hk4)))⟩
    · go_wp2
      go_ret
      exact ⟨ret_bool (by rw [← HG.out]; exact (anyOf_false fun j hj => Hg.out j (by omega)).symm), Hkk.out⟩

end Go.Proofs.Ytpkjffiajidfcaa

/- chans of package portholeref07. -/
namespace Go.Proofs.Ytpkjffiajidfcaa
open Go.RowKit


set_option maxRecDepth 100000 in
set_option maxHeartbeats 4000000 in
theorem refChans_6 (c : CfgV) (w : World) (h : CfgAt w c) :
    Calls Try.prog 43 #[.agg c.cells, .int .i64 6] w (Says (.bool (spRule c 5)) w) := by
  have hpn := h.pn
  have hcn := h.cn
  have Hc := Lib.hid h
  clear h
  generalize hG : spRule c 5 = G
  have HG := Lib.hid (hG : anyOf (fun i => !inR (c.chan i 1) 0 (c.pn - 1) || !inR (c.chan i 2) 0 (c.pn - 1)) c.cn = G)
  clear hG
  simp only [CfgV.cells]
  go_enter Try.func43, Try.ntmps43
  go_wp2_with fail
  go_loopw [5] (fun v wr => ∃ i : Nat, i ≤ c.cn ∧ v = .int .i64 i ∧ (∀ j, j < i → (fun i => !inR (c.chan i 1) 0 (c.pn - 1) || !inR (c.chan i 2) 0 (c.pn - 1)) j = false) ∧ Keeps [] (w.alloc (.cells c.cells 31)) wr) (fun v _ => c.cn - (intOf v).toNat)
  case atStart => exact ⟨0, Nat.zero_le _, rfl, by intro j hj; omega, Keeps.refl _ _⟩
  case round =>
    obtain ⟨i, hi, rfl, hg0, hk⟩ := hrel
    have Hg := Lib.hid hg0
    clear hg0
    have hbx : Blk wr w.heap.size c.cells 31 := (Blk.new _ _ _).keep hk (by simp)
    have hbl := hbx.lt
    have hbc := hbx.cell
    have Hk0 := Lib.hid hk
    have Hkk := Lib.hid (Keeps.trans (by (repeat' with_reducible (first | exact Keeps.refl _ _ | assumption | apply Keeps.drew | apply Keeps.drewN | apply Keeps.alloc))) hk : Keeps [] w wr)
    by_cases hlt : i < c.cn
    · obtain ⟨b, o, hca, hb, hrow⟩ := Hc.out.chans.resolve_left (by omega)
      have hi0 : (0 : Int) ≤ (i : Int) := Int.natCast_nonneg _
      have hi1 : (i : Int) < (c.cn : Int) := by omega
      have hbr : b < wr.heap.size := by have := hk.size; simp at this; omega
      have hk := Hkk.out
      have c0 : wr.cell? ⟨b, o + i * 7, none⟩ = some (.int .i64 (c.chan i 0)) := (Keeps.cell hk hb (by simp)).trans (by simpa [chs] using hrow i hlt 0 (by omega))
      have c1 : wr.cell? ⟨b, o + i * 7 + 1, none⟩ = some (.int .i64 (c.chan i 1)) := (Keeps.cell hk hb (by simp)).trans (by simpa [chs] using hrow i hlt 1 (by omega))
      have c2 : wr.cell? ⟨b, o + i * 7 + 2, none⟩ = some (.int .i64 (c.chan i 2)) := (Keeps.cell hk hb (by simp)).trans (by simpa [chs] using hrow i hlt 2 (by omega))
      have c3 : wr.cell? ⟨b, o + i * 7 + 3, none⟩ = some (.int .i64 (c.chan i 3)) := (Keeps.cell hk hb (by simp)).trans (by simpa [chs] using hrow i hlt 3 (by omega))
      have c4 : wr.cell? ⟨b, o + i * 7 + 4, none⟩ = some (.int .i64 (c.chan i 4)) := (Keeps.cell hk hb (by simp)).trans (by simpa [chs] using hrow i hlt 4 (by omega))
      have c5 : wr.cell? ⟨b, o + i * 7 + 5, none⟩ = some (.int .i64 (c.chan i 5)) := (Keeps.cell hk hb (by simp)).trans (by simpa [chs] using hrow i hlt 5 (by omega))
      have c6 : wr.cell? ⟨b, o + i * 7 + 6, none⟩ = some (.int .u32 (c.chan i 6)) := (Keeps.cell hk hb (by simp)).trans (by simpa [chs] using hrow i hlt 6 (by omega))
      clear hrow hk
      cases hp1 : inR (c.chan i 1) 0 (c.pn - 1)
      · have P1 := Lib.hid hp1
        go_wp2_with (first | (go_at_call 53; (try rw [← hca]); (with_reducible refine (refPart_any c (c.chan i 1) _ hpn).mono ?_); rintro e w1 ⟨rfl, hk1⟩; rw [hp1]; have B1 : Blk w1 wr.heap.size #[.int .i64 (c.chan i 0), .int .i64 (c.chan i 1), .int .i64 (c.chan i 2), .int .i64 (c.chan i 3), .int .i64 (c.chan i 4), .int .i64 (c.chan i 5), .int .u32 (c.chan i 6)] 60 := Blk.keep (l := []) (by (first | exact B1 | (repeat' (first | with_reducible (first | apply Blk.drew | (refine Blk.newAt ?_; first | rfl | (simp; done)) | apply Blk.alloc))))) hk1 (by simp); have C1 := B1.cell; have D1 : Blk w1 w.heap.size c.cells 31 := Blk.keep (l := []) (by (first | exact D1 | (repeat' (first | with_reducible (first | assumption | apply Blk.drew | apply Blk.alloc))))) hk1 (by simp); have E1 := D1.cell; have L1 := D1.lt) | (fail))
        go_ret
        exact ⟨ret_bool (by rw [← HG.out]; exact (anyOf_true hlt (by (first | (simp [P1.out, P2.out]; done) | (simp [P1.out]; done)))).symm), Keeps.trans Hkk.out (by (repeat' with_reducible (first | exact Keeps.refl _ _ | assumption | apply Keeps.drew | apply Keeps.drewN | apply Keeps.alloc | refine Keeps.trans ?_ hk1 | refine Keeps.trans ?_ hk2 | refine Keeps.trans ?_ hk3 | refine Keeps.trans ?_ hk4)))⟩
      · have P1 := Lib.hid hp1
        cases hp2 : inR (c.chan i 2) 0 (c.pn - 1)
        · have P2 := Lib.hid hp2
          go_wp2_with (first | (go_at_call 53; (try rw [← hca]); (with_reducible refine (refPart_any c (c.chan i 1) _ hpn).mono ?_); rintro e w1 ⟨rfl, hk1⟩; rw [hp1]; have B1 : Blk w1 wr.heap.size #[.int .i64 (c.chan i 0), .int .i64 (c.chan i 1), .int .i64 (c.chan i 2), .int .i64 (c.chan i 3), .int .i64 (c.chan i 4), .int .i64 (c.chan i 5), .int .u32 (c.chan i 6)] 60 := Blk.keep (l := []) (by (first | exact B1 | (repeat' (first | with_reducible (first | apply Blk.drew | (refine Blk.newAt ?_; first | rfl | (simp; done)) | apply Blk.alloc))))) hk1 (by simp); have C1 := B1.cell; have D1 : Blk w1 w.heap.size c.cells 31 := Blk.keep (l := []) (by (first | exact D1 | (repeat' (first | with_reducible (first | assumption | apply Blk.drew | apply Blk.alloc))))) hk1 (by simp); have E1 := D1.cell; have L1 := D1.lt) | (go_at_call 53; (try rw [← hca]); (with_reducible refine (refPart_any c (c.chan i 2) _ hpn).mono ?_); rintro e w2 ⟨rfl, hk2⟩; rw [hp2]; have B2 : Blk w2 wr.heap.size #[.int .i64 (c.chan i 0), .int .i64 (c.chan i 1), .int .i64 (c.chan i 2), .int .i64 (c.chan i 3), .int .i64 (c.chan i 4), .int .i64 (c.chan i 5), .int .u32 (c.chan i 6)] 60 := Blk.keep (l := []) (by (first | exact B1 | (repeat' (first | with_reducible (first | apply Blk.drew | (refine Blk.newAt ?_; first | rfl | (simp; done)) | apply Blk.alloc))))) hk2 (by simp); have C2 := B2.cell; have D2 : Blk w2 w.heap.size c.cells 31 := Blk.keep (l := []) (by (first | exact D1 | (repeat' (first | with_reducible (first | assumption | apply Blk.drew | apply Blk.alloc))))) hk2 (by simp); have E2 := D2.cell; have L2 := D2.lt) | (fail))
          go_ret
          exact ⟨ret_bool (by rw [← HG.out]; exact (anyOf_true hlt (by (first | (simp [P1.out, P2.out]; done) | (simp [P1.out]; done)))).symm), Keeps.trans Hkk.out (by (repeat' with_reducible (first | exact Keeps.refl _ _ | assumption | apply Keeps.drew | apply Keeps.drewN | apply Keeps.alloc | refine Keeps.trans ?_ hk1 | refine Keeps.trans ?_ hk2 | refine Keeps.trans ?_ hk3 | refine Keeps.trans ?_ hk4)))⟩
        · have P2 := Lib.hid hp2
          go_wp2_with (first | (go_at_call 53; (try rw [← hca]); (with_reducible refine (refPart_any c (c.chan i 1) _ hpn).mono ?_); rintro e w1 ⟨rfl, hk1⟩; rw [hp1]; have B1 : Blk w1 wr.heap.size #[.int .i64 (c.chan i 0), .int .i64 (c.chan i 1), .int .i64 (c.chan i 2), .int .i64 (c.chan i 3), .int .i64 (c.chan i 4), .int .i64 (c.chan i 5), .int .u32 (c.chan i 6)] 60 := Blk.keep (l := []) (by (first | exact B1 | (repeat' (first | with_reducible (first | apply Blk.drew | (refine Blk.newAt ?_; first | rfl | (simp; done)) | apply Blk.alloc))))) hk1 (by simp); have C1 := B1.cell; have D1 : Blk w1 w.heap.size c.cells 31 := Blk.keep (l := []) (by (first | exact D1 | (repeat' (first | with_reducible (first | assumption | apply Blk.drew | apply Blk.alloc))))) hk1 (by simp); have E1 := D1.cell; have L1 := D1.lt) | (go_at_call 53; (try rw [← hca]); (with_reducible refine (refPart_any c (c.chan i 2) _ hpn).mono ?_); rintro e w2 ⟨rfl, hk2⟩; rw [hp2]; have B2 : Blk w2 wr.heap.size #[.int .i64 (c.chan i 0), .int .i64 (c.chan i 1), .int .i64 (c.chan i 2), .int .i64 (c.chan i 3), .int .i64 (c.chan i 4), .int .i64 (c.chan i 5), .int .u32 (c.chan i 6)] 60 := Blk.keep (l := []) (by (first | exact B1 | (repeat' (first | with_reducible (first | apply Blk.drew | (refine Blk.newAt ?_; first | rfl | (simp; done)) | apply Blk.alloc))))) hk2 (by simp); have C2 := B2.cell; have D2 : Blk w2 w.heap.size c.cells 31 := Blk.keep (l := []) (by (first | exact D1 | (repeat' (first | with_reducible (first | assumption | apply Blk.drew | apply Blk.alloc))))) hk2 (by simp); have E2 := D2.cell; have L2 := D2.lt) | (fail))
          first | (rw [← hca]; go_roundw) | go_roundw | (refine ⟨?rel, ?measure⟩)
          case rel =>
            refine ⟨i + 1, by omega, by go_num, ?_, Keeps.trans Hk0.out (by (repeat' with_reducible (first | exact Keeps.refl _ _ | assumption | apply Keeps.drew | apply Keeps.drewN | apply Keeps.alloc | refine Keeps.trans ?_ hk1 | refine Keeps.trans ?_ hk2 | refine Keeps.trans ?_ hk3 | refine Keeps.trans ?_ hk4)))⟩
            intro j hj
            by_cases ej : j = i
            · rw [ej]; (first | (simp [P1.out, P2.out]; done) | (simp [P1.out]; done))
            · exact Hg.out j (by omega)
          case measure => simp [intOf]; omega
    · go_wp2
      go_ret
      exact ⟨ret_bool (by rw [← HG.out]; exact (anyOf_false fun j hj => Hg.out j (by omega)).symm), Hkk.out⟩

end Go.Proofs.Ytpkjffiajidfcaa

/- chans of package portholeref07. -/
namespace Go.Proofs.Ytpkjffiajidfcaa
open Go.RowKit


set_option maxRecDepth 100000 in
set_option maxHeartbeats 4000000 in
theorem refChans_7 (c : CfgV) (w : World) (h : CfgAt w c) :
    Calls Try.prog 43 #[.agg c.cells, .int .i64 7] w (Says (.bool (spRule c 6)) w) := by
  have hpn := h.pn
  have hcn := h.cn
  have Hc := Lib.hid h
  clear h
  generalize hG : spRule c 6 = G
  have HG := Lib.hid (hG : anyOf (fun i => c.chan i 1 == c.chan i 2) c.cn = G)
  clear hG
  simp only [CfgV.cells]
  go_enter Try.func43, Try.ntmps43
  go_wp2_with fail
  go_loopw [5] (fun v wr => ∃ i : Nat, i ≤ c.cn ∧ v = .int .i64 i ∧ (∀ j, j < i → (fun i => c.chan i 1 == c.chan i 2) j = false) ∧ Keeps [] (w.alloc (.cells c.cells 31)) wr) (fun v _ => c.cn - (intOf v).toNat)
  case atStart => exact ⟨0, Nat.zero_le _, rfl, by intro j hj; omega, Keeps.refl _ _⟩
  case round =>
    obtain ⟨i, hi, rfl, hg0, hk⟩ := hrel
    have Hg := Lib.hid hg0
    clear hg0
    have hbx : Blk wr w.heap.size c.cells 31 := (Blk.new _ _ _).keep hk (by simp)
    have hbl := hbx.lt
    have hbc := hbx.cell
    have Hk0 := Lib.hid hk
    have Hkk := Lib.hid (Keeps.trans (by (repeat' with_reducible (first | exact Keeps.refl _ _ | assumption | apply Keeps.drew | apply Keeps.drewN | apply Keeps.alloc))) hk : Keeps [] w wr)
    by_cases hlt : i < c.cn
    · obtain ⟨b, o, hca, hb, hrow⟩ := Hc.out.chans.resolve_left (by omega)
      have hi0 : (0 : Int) ≤ (i : Int) := Int.natCast_nonneg _
      have hi1 : (i : Int) < (c.cn : Int) := by omega
      have hbr : b < wr.heap.size := by have := hk.size; simp at this; omega
      have hk := Hkk.out
      have c0 : wr.cell? ⟨b, o + i * 7, none⟩ = some (.int .i64 (c.chan i 0)) := (Keeps.cell hk hb (by simp)).trans (by simpa [chs] using hrow i hlt 0 (by omega))
      have c1 : wr.cell? ⟨b, o + i * 7 + 1, none⟩ = some (.int .i64 (c.chan i 1)) := (Keeps.cell hk hb (by simp)).trans (by simpa [chs] using hrow i hlt 1 (by omega))
      have c2 : wr.cell? ⟨b, o + i * 7 + 2, none⟩ = some (.int .i64 (c.chan i 2)) := (Keeps.cell hk hb (by simp)).trans (by simpa [chs] using hrow i hlt 2 (by omega))
      have c3 : wr.cell? ⟨b, o + i * 7 + 3, none⟩ = some (.int .i64 (c.chan i 3)) := (Keeps.cell hk hb (by simp)).trans (by simpa [chs] using hrow i hlt 3 (by omega))
      have c4 : wr.cell? ⟨b, o + i * 7 + 4, none⟩ = some (.int .i64 (c.chan i 4)) := (Keeps.cell hk hb (by simp)).trans (by simpa [chs] using hrow i hlt 4 (by omega))
      have c5 : wr.cell? ⟨b, o + i * 7 + 5, none⟩ = some (.int .i64 (c.chan i 5)) := (Keeps.cell hk hb (by simp)).trans (by simpa [chs] using hrow i hlt 5 (by omega))
      have c6 : wr.cell? ⟨b, o + i * 7 + 6, none⟩ = some (.int .u32 (c.chan i 6)) := (Keeps.cell hk hb (by simp)).trans (by simpa [chs] using hrow i hlt 6 (by omega))
      clear hrow hk
      by_cases p1 : c.chan i 1 = c.chan i 2
      · have P1 := Lib.hid p1
        have q1 : (c.chan i 1 == c.chan i 2) = true := by simpa using p1
        have r1 : (c.chan i 1 != c.chan i 2) = false := by simpa using p1
        clear p1
        go_wp2_with fail
        go_ret
        exact ⟨ret_bool (by rw [← HG.out]; exact (anyOf_true hlt (by (try have P1 := P1.out); (try have P2 := P2.out); (try have P3 := P3.out); (try have P4 := P4.out); (try have P5 := P5.out); (try have P6 := P6.out); simp [inR, spDeep, spFresh, *] <;> omega)).symm), Keeps.trans Hkk.out (by (repeat' with_reducible (first | exact Keeps.refl _ _ | assumption | apply Keeps.drew | apply Keeps.drewN | apply Keeps.alloc | refine Keeps.trans ?_ hk1 | refine Keeps.trans ?_ hk2 | refine Keeps.trans ?_ hk3 | refine Keeps.trans ?_ hk4)))⟩
      · have P1 := Lib.hid p1
        have q1 : (c.chan i 1 == c.chan i 2) = false := by simpa using p1
        have r1 : (c.chan i 1 != c.chan i 2) = true := by simpa using p1
        clear p1
        go_wp2_with fail
        first | (rw [← hca]; go_roundw) | go_roundw | (refine ⟨?rel, ?measure⟩)
        case rel =>
          refine ⟨i + 1, by omega, by go_num, ?_, Keeps.trans Hk0.out (by (repeat' with_reducible (first | exact Keeps.refl _ _ | assumption | apply Keeps.drew | apply Keeps.drewN | apply Keeps.alloc | refine Keeps.trans ?_ hk1 | refine Keeps.trans ?_ hk2 | refine Keeps.trans ?_ hk3 | refine Keeps.trans ?_ hk4)))⟩
          intro j hj
          by_cases ej : j = i
          · rw [ej]; (try have P1 := P1.out); (try have P2 := P2.out); (try have P3 := P3.out); (try have P4 := P4.out); (try have P5 := P5.out); (try have P6 := P6.out); simp [inR, spDeep, spFresh, *] <;> omega
          · exact Hg.out j (by omega)
        case measure => simp [intOf]; omega
    · go_wp2
      go_ret
      exact ⟨ret_bool (by rw [← HG.out]; exact (anyOf_false fun j hj => Hg.out j (by omega)).symm), Hkk.out⟩

end Go.Proofs.Ytpkjffiajidfcaa

/- chans of package portholeref07. -/
namespace Go.Proofs.Ytpkjffiajidfcaa
open Go.RowKit


set_option maxRecDepth 100000 in
set_option maxHeartbeats 4000000 in
theorem refChans_8 (c : CfgV) (w : World) (h : CfgAt w c) :
    Calls Try.prog 43 #[.agg c.cells, .int .i64 8] w (Says (.bool (spRule c 7)) w) := by
  have hpn := h.pn
  have hcn := h.cn
  have Hc := Lib.hid h
  clear h
  generalize hG : spRule c 7 = G
  have HG := Lib.hid (hG : anyOf (fun i => !inR (c.chan i 3) 1 16) c.cn = G)
  clear hG
  simp only [CfgV.cells]
  go_enter Try.func43, Try.ntmps43
  go_wp2_with fail
  go_loopw [5] (fun v wr => ∃ i : Nat, i ≤ c.cn ∧ v = .int .i64 i ∧ (∀ j, j < i → (fun i => !inR (c.chan i 3) 1 16) j = false) ∧ Keeps [] (w.alloc (.cells c.cells 31)) wr) (fun v _ => c.cn - (intOf v).toNat)
  case atStart => exact ⟨0, Nat.zero_le _, rfl, by intro j hj; omega, Keeps.refl _ _⟩
  case round =>
    obtain ⟨i, hi, rfl, hg0, hk⟩ := hrel
    have Hg := Lib.hid hg0
    clear hg0
    have hbx : Blk wr w.heap.size c.cells 31 := (Blk.new _ _ _).keep hk (by simp)
    have hbl := hbx.lt
    have hbc := hbx.cell
    have Hk0 := Lib.hid hk
    have Hkk := Lib.hid (Keeps.trans (by (repeat' with_reducible (first | exact Keeps.refl _ _ | assumption | apply Keeps.drew | apply Keeps.drewN | apply Keeps.alloc))) hk : Keeps [] w wr)
    by_cases hlt : i < c.cn
    · obtain ⟨b, o, hca, hb, hrow⟩ := Hc.out.chans.resolve_left (by omega)
      have hi0 : (0 : Int) ≤ (i : Int) := Int.natCast_nonneg _
      have hi1 : (i : Int) < (c.cn : Int) := by omega
      have hbr : b < wr.heap.size := by have := hk.size; simp at this; omega
      have hk := Hkk.out
      have c0 : wr.cell? ⟨b, o + i * 7, none⟩ = some (.int .i64 (c.chan i 0)) := (Keeps.cell hk hb (by simp)).trans (by simpa [chs] using hrow i hlt 0 (by omega))
      have c1 : wr.cell? ⟨b, o + i * 7 + 1, none⟩ = some (.int .i64 (c.chan i 1)) := (Keeps.cell hk hb (by simp)).trans (by simpa [chs] using hrow i hlt 1 (by omega))
      have c2 : wr.cell? ⟨b, o + i * 7 + 2, none⟩ = some (.int .i64 (c.chan i 2)) := (Keeps.cell hk hb (by simp)).trans (by simpa [chs] using hrow i hlt 2 (by omega))
      have c3 : wr.cell? ⟨b, o + i * 7 + 3, none⟩ = some (.int .i64 (c.chan i 3)) := (Keeps.cell hk hb (by simp)).trans (by simpa [chs] using hrow i hlt 3 (by omega))
      have c4 : wr.cell? ⟨b, o + i * 7 + 4, none⟩ = some (.int .i64 (c.chan i 4)) := (Keeps.cell hk hb (by simp)).trans (by simpa [chs] using hrow i hlt 4 (by omega))
      have c5 : wr.cell? ⟨b, o + i * 7 + 5, none⟩ = some (.int .i64 (c.chan i 5)) := (Keeps.cell hk hb (by simp)).trans (by simpa [chs] using hrow i hlt 5 (by omega))
      have c6 : wr.cell? ⟨b, o + i * 7 + 6, none⟩ = some (.int .u32 (c.chan i 6)) := (Keeps.cell hk hb (by simp)).trans (by simpa [chs] using hrow i hlt 6 (by omega))
      clear hrow hk
      by_cases p1 : c.chan i 3 < 1
      · have P1 := Lib.hid p1
        go_wp2_with fail
        go_ret
        exact ⟨ret_bool (by rw [← HG.out]; exact (anyOf_true hlt (by (try have P1 := P1.out); (try have P2 := P2.out); (try have P3 := P3.out); (try have P4 := P4.out); (try have P5 := P5.out); (try have P6 := P6.out); simp [inR, spDeep, spFresh, *] <;> omega)).symm), Keeps.trans Hkk.out (by (repeat' with_reducible (first | exact Keeps.refl _ _ | assumption | apply Keeps.drew | apply Keeps.drewN | apply Keeps.alloc | refine Keeps.trans ?_ hk1 | refine Keeps.trans ?_ hk2 | refine Keeps.trans ?_ hk3 | refine Keeps.trans ?_ hk4)))⟩
      · have P1 := Lib.hid p1
        by_cases p2 : 16 < c.chan i 3
        · have P2 := Lib.hid p2
          go_wp2_with fail
          go_ret
          exact ⟨ret_bool (by rw [← HG.out]; exact (anyOf_true hlt (by (try have P1 := P1.out); (try have P2 := P2.out); (try have P3 := P3.out); (try have P4 := P4.out); (try have P5 := P5.out); (try have P6 := P6.out); simp [inR, spDeep, spFresh, *] <;> omega)).symm), Keeps.trans Hkk.out (by (repeat' with_reducible (first | exact Keeps.refl _ _ | assumption | apply Keeps.drew | apply Keeps.drewN | apply Keeps.alloc | refine Keeps.trans ?_ hk1 | refine Keeps.trans ?_ hk2 | refine Keeps.trans ?_ hk3 | refine Keeps.trans ?_ hk4)))⟩
        · have P2 := Lib.hid p2
          go_wp2_with fail
          first | (rw [← hca]; go_roundw) | go_roundw | (refine ⟨?rel, ?measure⟩)
          case rel =>
            refine ⟨i + 1, by omega, by go_num, ?_, Keeps.trans Hk0.out (by (repeat' with_reducible (first | exact Keeps.refl _ _ | assumption | apply Keeps.drew | apply Keeps.drewN | apply Keeps.alloc | refine Keeps.trans ?_ hk1 | refine Keeps.trans ?_ hk2 | refine Keeps.trans ?_ hk3 | refine Keeps.trans ?_ hk4)))⟩
            intro j hj
            by_cases ej : j = i
            · rw [ej]; (try have P1 := P1.out); (try have P2 := P2.out); (try have P3 := P3.out); (try have P4 := P4.out); (try have P5 := P5.out); (try have P6 := P6.out); simp [inR, spDeep, spFresh, *] <;> omega
            · exact Hg.out j (by omega)
          case measure => simp [intOf]; omega
    · go_wp2
      go_ret
      exact ⟨ret_bool (by rw [← HG.out]; exact (anyOf_false fun j hj => Hg.out j (by omega)).symm), Hkk.out⟩

end Go.Proofs.Ytpkjffiajidfcaa

/- chans of package portholeref07. -/
namespace Go.Proofs.Ytpkjffiajidfcaa
open Go.RowKit


set_option maxRecDepth 100000 in
set_option maxHeartbeats 4000000 in
theorem refChans_9 (c : CfgV) (w : World) (h : CfgAt w c) :
    Calls Try.prog 43 #[.agg c.cells, .int .i64 9] w (Says (.bool (spRule c 8)) w) := by
  have hpn := h.pn
  have hcn := h.cn
  have Hc := Lib.hid h
  clear h
  generalize hG : spRule c 8 = G
  have HG := Lib.hid (hG : anyOf (fun i => !spDeep (c.chan i 0) (c.chan i 4)) c.cn = G)
  clear hG
  simp only [CfgV.cells]
  go_enter Try.func43, Try.ntmps43
  go_wp2_with fail
  go_loopw [5] (fun v wr => ∃ i : Nat, i ≤ c.cn ∧ v = .int .i64 i ∧ (∀ j, j < i → (fun i => !spDeep (c.chan i 0) (c.chan i 4)) j = false) ∧ Keeps [] (w.alloc (.cells c.cells 31)) wr) (fun v _ => c.cn - (intOf v).toNat)
  case atStart => exact ⟨0, Nat.zero_le _, rfl, by intro j hj; omega, Keeps.refl _ _⟩
  case round =>
    obtain ⟨i, hi, rfl, hg0, hk⟩ := hrel
    have Hg := Lib.hid hg0
    clear hg0
    have hbx : Blk wr w.heap.size c.cells 31 := (Blk.new _ _ _).keep hk (by simp)
    have hbl := hbx.lt
    have hbc := hbx.cell
    have Hk0 := Lib.hid hk
    have Hkk := Lib.hid (Keeps.trans (by (repeat' with_reducible (first | exact Keeps.refl _ _ | assumption | apply Keeps.drew | apply Keeps.drewN | apply Keeps.alloc))) hk : Keeps [] w wr)
    by_cases hlt : i < c.cn
    · obtain ⟨b, o, hca, hb, hrow⟩ := Hc.out.chans.resolve_left (by omega)
      have hi0 : (0 : Int) ≤ (i : Int) := Int.natCast_nonneg _
      have hi1 : (i : Int) < (c.cn : Int) := by omega
      have hbr : b < wr.heap.size := by have := hk.size; simp at this; omega
      have hk := Hkk.out
      have c0 : wr.cell? ⟨b, o + i * 7, none⟩ = some (.int .i64 (c.chan i 0)) := (Keeps.cell hk hb (by simp)).trans (by simpa [chs] using hrow i hlt 0 (by omega))
      have c1 : wr.cell? ⟨b, o + i * 7 + 1, none⟩ = some (.int .i64 (c.chan i 1)) := (Keeps.cell hk hb (by simp)).trans (by simpa [chs] using hrow i hlt 1 (by omega))
      have c2 : wr.cell? ⟨b, o + i * 7 + 2, none⟩ = some (.int .i64 (c.chan i 2)) := (Keeps.cell hk hb (by simp)).trans (by simpa [chs] using hrow i hlt 2 (by omega))
      have c3 : wr.cell? ⟨b, o + i * 7 + 3, none⟩ = some (.int .i64 (c.chan i 3)) := (Keeps.cell hk hb (by simp)).trans (by simpa [chs] using hrow i hlt 3 (by omega))
      have c4 : wr.cell? ⟨b, o + i * 7 + 4, none⟩ = some (.int .i64 (c.chan i 4)) := (Keeps.cell hk hb (by simp)).trans (by simpa [chs] using hrow i hlt 4 (by omega))
      have c5 : wr.cell? ⟨b, o + i * 7 + 5, none⟩ = some (.int .i64 (c.chan i 5)) := (Keeps.cell hk hb (by simp)).trans (by simpa [chs] using hrow i hlt 5 (by omega))
      have c6 : wr.cell? ⟨b, o + i * 7 + 6, none⟩ = some (.int .u32 (c.chan i 6)) := (Keeps.cell hk hb (by simp)).trans (by simpa [chs] using hrow i hlt 6 (by omega))
      clear hrow hk
      by_cases p1 : c.chan i 0 = 1
      · have P1 := Lib.hid p1
        have q1 : (c.chan i 0 == 1) = true := by simpa using p1
        have r1 : (c.chan i 0 != 1) = false := by simpa using p1
        have s1_0 : (c.chan i 0 == 0) = false := by rw [p1]; rfl
        have s1_0' : (c.chan i 0 != 0) = true := by rw [p1]; rfl
        have s1_2 : (c.chan i 0 == 2) = false := by rw [p1]; rfl
        have s1_2' : (c.chan i 0 != 2) = true := by rw [p1]; rfl
        have s1_4 : (c.chan i 0 == 4) = false := by rw [p1]; rfl
        have s1_4' : (c.chan i 0 != 4) = true := by rw [p1]; rfl
        have s1_8 : (c.chan i 0 == 8) = false := by rw [p1]; rfl
        have s1_8' : (c.chan i 0 != 8) = true := by rw [p1]; rfl
        clear p1
        by_cases p2 : c.chan i 4 = 0
        · have P2 := Lib.hid p2
          have q2 : (c.chan i 4 == 0) = true := by simpa using p2
          have r2 : (c.chan i 4 != 0) = false := by simpa using p2
          have s2_1 : (c.chan i 4 == 1) = false := by rw [p2]; rfl
          have s2_1' : (c.chan i 4 != 1) = true := by rw [p2]; rfl
          have s2_2 : (c.chan i 4 == 2) = false := by rw [p2]; rfl
          have s2_2' : (c.chan i 4 != 2) = true := by rw [p2]; rfl
          have s2_4 : (c.chan i 4 == 4) = false := by rw [p2]; rfl
          have s2_4' : (c.chan i 4 != 4) = true := by rw [p2]; rfl
          have s2_8 : (c.chan i 4 == 8) = false := by rw [p2]; rfl
          have s2_8' : (c.chan i 4 != 8) = true := by rw [p2]; rfl
          clear p2
          go_wp2_with fail
          first | (rw [← hca]; go_roundw) | go_roundw | (refine ⟨?rel, ?measure⟩)
          case rel =>
            refine ⟨i + 1, by omega, by go_num, ?_, Keeps.trans Hk0.out (by (repeat' with_reducible (first | exact Keeps.refl _ _ | assumption | apply Keeps.drew | apply Keeps.drewN | apply Keeps.alloc | refine Keeps.trans ?_ hk1 | refine Keeps.trans ?_ hk2 | refine Keeps.trans ?_ hk3 | refine Keeps.trans ?_ hk4)))⟩
            intro j hj
            by_cases ej : j = i
            · rw [ej]; (try have P1 := P1.out); (try have P2 := P2.out); (try have P3 := P3.out); (try have P4 := P4.out); (try have P5 := P5.out); (try have P6 := P6.out); simp [inR, spDeep, spFresh, *] <;> omega
            · exact Hg.out j (by omega)
          case measure => simp [intOf]; omega
        · have P2 := Lib.hid p2
          have q2 : (c.chan i 4 == 0) = false := by simpa using p2
          have r2 : (c.chan i 4 != 0) = true := by simpa using p2
          clear p2
          go_wp2_with fail
          go_ret
          exact ⟨ret_bool (by rw [← HG.out]; exact (anyOf_true hlt (by (try have P1 := P1.out); (try have P2 := P2.out); (try have P3 := P3.out); (try have P4 := P4.out); (try have P5 := P5.out); (try have P6 := P6.out); simp [inR, spDeep, spFresh, *] <;> omega)).symm), Keeps.trans Hkk.out (by (repeat' with_reducible (first | exact Keeps.refl _ _ | assumption | apply Keeps.drew | apply Keeps.drewN | apply Keeps.alloc | refine Keeps.trans ?_ hk1 | refine Keeps.trans ?_ hk2 | refine Keeps.trans ?_ hk3 | refine Keeps.trans ?_ hk4)))⟩
      · have P1 := Lib.hid p1
        have q1 : (c.chan i 0 == 1) = false := by simpa using p1
        have r1 : (c.chan i 0 != 1) = true := by simpa using p1
        clear p1
        by_cases p2 : c.chan i 0 = 2
        · have P2 := Lib.hid p2
          have q2 : (c.chan i 0 == 2) = true := by simpa using p2
          have r2 : (c.chan i 0 != 2) = false := by simpa using p2
          have s2_0 : (c.chan i 0 == 0) = false := by rw [p2]; rfl
          have s2_0' : (c.chan i 0 != 0) = true := by rw [p2]; rfl
          have s2_1 : (c.chan i 0 == 1) = false := by rw [p2]; rfl
          have s2_1' : (c.chan i 0 != 1) = true := by rw [p2]; rfl
          have s2_4 : (c.chan i 0 == 4) = false := by rw [p2]; rfl
          have s2_4' : (c.chan i 0 != 4) = true := by rw [p2]; rfl
          have s2_8 : (c.chan i 0 == 8) = false := by rw [p2]; rfl
          have s2_8' : (c.chan i 0 != 8) = true := by rw [p2]; rfl
          clear p2
          by_cases p3 : c.chan i 4 = 1
          · have P3 := Lib.hid p3
            have q3 : (c.chan i 4 == 1) = true := by simpa using p3
            have r3 : (c.chan i 4 != 1) = false := by simpa using p3
            have s3_0 : (c.chan i 4 == 0) = false := by rw [p3]; rfl
            have s3_0' : (c.chan i 4 != 0) = true := by rw [p3]; rfl
            have s3_2 : (c.chan i 4 == 2) = false := by rw [p3]; rfl
            have s3_2' : (c.chan i 4 != 2) = true := by rw [p3]; rfl
            have s3_4 : (c.chan i 4 == 4) = false := by rw [p3]; rfl
            have s3_4' : (c.chan i 4 != 4) = true := by rw [p3]; rfl
            have s3_8 : (c.chan i 4 == 8) = false := by rw [p3]; rfl
            have s3_8' : (c.chan i 4 != 8) = true := by rw [p3]; rfl
            clear p3
            go_wp2_with fail
            first | (rw [← hca]; go_roundw) | go_roundw | (refine ⟨?rel, ?measure⟩)
            case rel =>
              refine ⟨i + 1, by omega, by go_num, ?_, Keeps.trans Hk0.out (by (repeat' with_reducible (first | exact Keeps.refl _ _ | assumption | apply Keeps.drew | apply Keeps.drewN | apply Keeps.alloc | refine Keeps.trans ?_ hk1 | refine Keeps.trans ?_ hk2 | refine Keeps.trans ?_ hk3 | refine Keeps.trans ?_ hk4)))⟩
              intro j hj
              by_cases ej : j = i
              · rw [ej]; (try have P1 := P1.out); (try have P2 := P2.out); (try have P3 := P3.out); (try have P4 := P4.out); (try have P5 := P5.out); (try have P6 := P6.out); simp [inR, spDeep, spFresh, *] <;> omega
              · exact Hg.out j (by omega)
            case measure => simp [intOf]; omega
          · have P3 := Lib.hid p3
            have q3 : (c.chan i 4 == 1) = false := by simpa using p3
            have r3 : (c.chan i 4 != 1) = true := by simpa using p3
            clear p3
            by_cases p4 : c.chan i 4 = 2
            · have P4 := Lib.hid p4
              have q4 : (c.chan i 4 == 2) = true := by simpa using p4
              have r4 : (c.chan i 4 != 2) = false := by simpa using p4
              have s4_0 : (c.chan i 4 == 0) = false := by rw [p4]; rfl
              have s4_0' : (c.chan i 4 != 0) = true := by rw [p4]; rfl
              have s4_1 : (c.chan i 4 == 1) = false := by rw [p4]; rfl
              have s4_1' : (c.chan i 4 != 1) = true := by rw [p4]; rfl
              have s4_4 : (c.chan i 4 == 4) = false := by rw [p4]; rfl
              have s4_4' : (c.chan i 4 != 4) = true := by rw [p4]; rfl
              have s4_8 : (c.chan i 4 == 8) = false := by rw [p4]; rfl
              have s4_8' : (c.chan i 4 != 8) = true := by rw [p4]; rfl
              clear p4
              go_wp2_with fail
              first | (rw [← hca]; go_roundw) | go_roundw | (refine ⟨?rel, ?measure⟩)
              case rel =>
                refine ⟨i + 1, by omega, by go_num, ?_, Keeps.trans Hk0.out (by (repeat' with_reducible (first | exact Keeps.refl _ _ | assumption | apply Keeps.drew | apply Keeps.drewN | apply Keeps.alloc | refine Keeps.trans ?_ hk1 | refine Keeps.trans ?_ hk2 | refine Keeps.trans ?_ hk3 | refine Keeps.trans ?_ hk4)))⟩
                intro j hj
                by_cases ej : j = i
                · rw [ej]; (try have P1 := P1.out); (try have P2 := P2.out); (try have P3 := P3.out); (try have P4 := P4.out); (try have P5 := P5.out); (try have P6 := P6.out); simp [inR, spDeep, spFresh, *] <;> omega
                · exact Hg.out j (by omega)
              case measure => simp [intOf]; omega
            · have P4 := Lib.hid p4
              have q4 : (c.chan i 4 == 2) = false := by simpa using p4
              have r4 : (c.chan i 4 != 2) = true := by simpa using p4
              clear p4
              by_cases p5 : c.chan i 4 = 4
              · have P5 := Lib.hid p5
                have q5 : (c.chan i 4 == 4) = true := by simpa using p5
                have r5 : (c.chan i 4 != 4) = false := by simpa using p5
                have s5_0 : (c.chan i 4 == 0) = false := by rw [p5]; rfl
                have s5_0' : (c.chan i 4 != 0) = true := by rw [p5]; rfl
                have s5_1 : (c.chan i 4 == 1) = false := by rw [p5]; rfl
                have s5_1' : (c.chan i 4 != 1) = true := by rw [p5]; rfl
                have s5_2 : (c.chan i 4 == 2) = false := by rw [p5]; rfl
                have s5_2' : (c.chan i 4 != 2) = true := by rw [p5]; rfl
                have s5_8 : (c.chan i 4 == 8) = false := by rw [p5]; rfl
                have s5_8' : (c.chan i 4 != 8) = true := by rw [p5]; rfl
                clear p5
                go_wp2_with fail
                first | (rw [← hca]; go_roundw) | go_roundw | (refine ⟨?rel, ?measure⟩)
                case rel =>
                  refine ⟨i + 1, by omega, by go_num, ?_, Keeps.trans Hk0.out (by (repeat' with_reducible (first | exact Keeps.refl _ _ | assumption | apply Keeps.drew | apply Keeps.drewN | apply Keeps.alloc | refine Keeps.trans ?_ hk1 | refine Keeps.trans ?_ hk2 | refine Keeps.trans ?_ hk3 | refine Keeps.trans ?_ hk4)))⟩
                  intro j hj
                  by_cases ej : j = i
                  · rw [ej]; (try have P1 := P1.out); (try have P2 := P2.out); (try have P3 := P3.out); (try have P4 := P4.out); (try have P5 := P5.out); (try have P6 := P6.out); simp [inR, spDeep, spFresh, *] <;> omega
                  · exact Hg.out j (by omega)
                case measure => simp [intOf]; omega
              · have P5 := Lib.hid p5
                have q5 : (c.chan i 4 == 4) = false := by simpa using p5
                have r5 : (c.chan i 4 != 4) = true := by simpa using p5
                clear p5
                by_cases p6 : c.chan i 4 = 8
                · have P6 := Lib.hid p6
                  have q6 : (c.chan i 4 == 8) = true := by simpa using p6
                  have r6 : (c.chan i 4 != 8) = false := by simpa using p6
                  have s6_0 : (c.chan i 4 == 0) = false := by rw [p6]; rfl
                  have s6_0' : (c.chan i 4 != 0) = true := by rw [p6]; rfl
                  have s6_1 : (c.chan i 4 == 1) = false := by rw [p6]; rfl
                  have s6_1' : (c.chan i 4 != 1) = true := by rw [p6]; rfl
                  have s6_2 : (c.chan i 4 == 2) = false := by rw [p6]; rfl
                  have s6_2' : (c.chan i 4 != 2) = true := by rw [p6]; rfl
                  have s6_4 : (c.chan i 4 == 4) = false := by rw [p6]; rfl
                  have s6_4' : (c.chan i 4 != 4) = true := by rw [p6]; rfl
                  clear p6
                  go_wp2_with fail
                  first | (rw [← hca]; go_roundw) | go_roundw | (refine ⟨?rel, ?measure⟩)
                  case rel =>
                    refine ⟨i + 1, by omega, by go_num, ?_, Keeps.trans Hk0.out (by (repeat' with_reducible (first | exact Keeps.refl _ _ | assumption | apply Keeps.drew | apply Keeps.drewN | apply Keeps.alloc | refine Keeps.trans ?_ hk1 | refine Keeps.trans ?_ hk2 | refine Keeps.trans ?_ hk3 | refine Keeps.trans ?_ hk4)))⟩
                    intro j hj
                    by_cases ej : j = i
                    · rw [ej]; (try have P1 := P1.out); (try have P2 := P2.out); (try have P3 := P3.out); (try have P4 := P4.out); (try have P5 := P5.out); (try have P6 := P6.out); simp [inR, spDeep, spFresh, *] <;> omega
                    · exact Hg.out j (by omega)
                  case measure => simp [intOf]; omega
                · have P6 := Lib.hid p6
                  have q6 : (c.chan i 4 == 8) = false := by simpa using p6
                  have r6 : (c.chan i 4 != 8) = true := by simpa using p6
                  clear p6
                  go_wp2_with fail
                  go_ret
                  exact ⟨ret_bool (by rw [← HG.out]; exact (anyOf_true hlt (by (try have P1 := P1.out); (try have P2 := P2.out); (try have P3 := P3.out); (try have P4 := P4.out); (try have P5 := P5.out); (try have P6 := P6.out); simp [inR, spDeep, spFresh, *] <;> omega)).symm), Keeps.trans Hkk.out (by (repeat' with_reducible (first | exact Keeps.refl _ _ | assumption | apply Keeps.drew | apply Keeps.drewN | apply Keeps.alloc | refine Keeps.trans ?_ hk1 | refine Keeps.trans ?_ hk2 | refine Keeps.trans ?_ hk3 | refine Keeps.trans ?_ hk4)))⟩
        · have P2 := Lib.hid p2
          have q2 : (c.chan i 0 == 2) = false := by simpa using p2
          have r2 : (c.chan i 0 != 2) = true := by simpa using p2
          clear p2
          go_wp2_with fail
          first | (rw [← hca]; go_roundw) | go_roundw | (refine ⟨?rel, ?measure⟩)
          case rel =>
            refine ⟨i + 1, by omega, by go_num, ?_, Keeps.trans Hk0.out (by (repeat' with_reducible (first | exact Keeps.refl _ _ | assumption | apply Keeps.drew | apply Keeps.drewN | apply Keeps.alloc | refine Keeps.trans ?_ hk1 | refine Keeps.trans ?_ hk2 | refine Keeps.trans ?_ hk3 | refine Keeps.trans ?_ hk4)))⟩
            intro j hj
            by_cases ej : j = i
            · rw [ej]; (try have P1 := P1.out); (try have P2 := P2.out); (try have P3 := P3.out); (try have P4 := P4.out); (try have P5 := P5.out); (try have P6 := P6.out); simp [inR, spDeep, spFresh, *] <;> omega
            · exact Hg.out j (by omega)
          case measure => simp [intOf]; omega
    · go_wp2
      go_ret
      exact ⟨ret_bool (by rw [← HG.out]; exact (anyOf_false fun j hj => Hg.out j (by omega)).symm), Hkk.out⟩

end Go.Proofs.Ytpkjffiajidfcaa

/- chans of package portholeref07. -/
namespace Go.Proofs.Ytpkjffiajidfcaa
open Go.RowKit


set_option maxRecDepth 100000 in
set_option maxHeartbeats 4000000 in
theorem refChans_10 (c : CfgV) (w : World) (h : CfgAt w c) :
    Calls Try.prog 43 #[.agg c.cells, .int .i64 10] w (Says (.bool (spRule c 9)) w) := by
  have hpn := h.pn
  have hcn := h.cn
  have Hc := Lib.hid h
  clear h
  generalize hG : spRule c 9 = G
  have HG := Lib.hid (hG : anyOf (fun i => !spFresh (c.chan i 0) (c.chan i 5)) c.cn = G)
  clear hG
  simp only [CfgV.cells]
  go_enter Try.func43, Try.ntmps43
  go_wp2_with fail
  go_loopw [5] (fun v wr => ∃ i : Nat, i ≤ c.cn ∧ v = .int .i64 i ∧ (∀ j, j < i → (fun i => !spFresh (c.chan i 0) (c.chan i 5)) j = false) ∧ Keeps [] (w.alloc (.cells c.cells 31)) wr) (fun v _ => c.cn - (intOf v).toNat)
  case atStart => exact ⟨0, Nat.zero_le _, rfl, by intro j hj; omega, Keeps.refl _ _⟩
  case round =>
    obtain ⟨i, hi, rfl, hg0, hk⟩ := hrel
    have Hg := Lib.hid hg0
    clear hg0
    have hbx : Blk wr w.heap.size c.cells 31 := (Blk.new _ _ _).keep hk (by simp)
    have hbl := hbx.lt
    have hbc := hbx.cell
    have Hk0 := Lib.hid hk
    have Hkk := Lib.hid (Keeps.trans (by (repeat' with_reducible (first | exact Keeps.refl _ _ | assumption | apply Keeps.drew | apply Keeps.drewN | apply Keeps.alloc))) hk : Keeps [] w wr)
    by_cases hlt : i < c.cn
    · obtain ⟨b, o, hca, hb, hrow⟩ := Hc.out.chans.resolve_left (by omega)
      have hi0 : (0 : Int) ≤ (i : Int) := Int.natCast_nonneg _
      have hi1 : (i : Int) < (c.cn : Int) := by omega
      have hbr : b < wr.heap.size := by have := hk.size; simp at this; omega
      have hk := Hkk.out
      have c0 : wr.cell? ⟨b, o + i * 7, none⟩ = some (.int .i64 (c.chan i 0)) := (Keeps.cell hk hb (by simp)).trans (by simpa [chs] using hrow i hlt 0 (by omega))
      have c1 : wr.cell? ⟨b, o + i * 7 + 1, none⟩ = some (.int .i64 (c.chan i 1)) := (Keeps.cell hk hb (by simp)).trans (by simpa [chs] using hrow i hlt 1 (by omega))
      have c2 : wr.cell? ⟨b, o + i * 7 + 2, none⟩ = some (.int .i64 (c.chan i 2)) := (Keeps.cell hk hb (by simp)).trans (by simpa [chs] using hrow i hlt 2 (by omega))
      have c3 : wr.cell? ⟨b, o + i * 7 + 3, none⟩ = some (.int .i64 (c.chan i 3)) := (Keeps.cell hk hb (by simp)).trans (by simpa [chs] using hrow i hlt 3 (by omega))
      have c4 : wr.cell? ⟨b, o + i * 7 + 4, none⟩ = some (.int .i64 (c.chan i 4)) := (Keeps.cell hk hb (by simp)).trans (by simpa [chs] using hrow i hlt 4 (by omega))
      have c5 : wr.cell? ⟨b, o + i * 7 + 5, none⟩ = some (.int .i64 (c.chan i 5)) := (Keeps.cell hk hb (by simp)).trans (by simpa [chs] using hrow i hlt 5 (by omega))
      have c6 : wr.cell? ⟨b, o + i * 7 + 6, none⟩ = some (.int .u32 (c.chan i 6)) := (Keeps.cell hk hb (by simp)).trans (by simpa [chs] using hrow i hlt 6 (by omega))
      clear hrow hk
      by_cases p1 : c.chan i 0 = 1
      · have P1 := Lib.hid p1
        have q1 : (c.chan i 0 == 1) = true := by simpa using p1
        have r1 : (c.chan i 0 != 1) = false := by simpa using p1
        clear p1
        by_cases p2 : c.chan i 5 < 0
        · have P2 := Lib.hid p2
          go_wp2_with fail
          go_ret
          exact ⟨ret_bool (by rw [← HG.out]; exact (anyOf_true hlt (by (try have P1 := P1.out); (try have P2 := P2.out); (try have P3 := P3.out); (try have P4 := P4.out); (try have P5 := P5.out); (try have P6 := P6.out); simp [inR, spDeep, spFresh, *] <;> omega)).symm), Keeps.trans Hkk.out (by (repeat' with_reducible (first | exact Keeps.refl _ _ | assumption | apply Keeps.drew | apply Keeps.drewN | apply Keeps.alloc | refine Keeps.trans ?_ hk1 | refine Keeps.trans ?_ hk2 | refine Keeps.trans ?_ hk3 | refine Keeps.trans ?_ hk4)))⟩
        · have P2 := Lib.hid p2
          by_cases p3 : 1048576 < c.chan i 5
          · have P3 := Lib.hid p3
            go_wp2_with fail
            go_ret
            exact ⟨ret_bool (by rw [← HG.out]; exact (anyOf_true hlt (by (try have P1 := P1.out); (try have P2 := P2.out); (try have P3 := P3.out); (try have P4 := P4.out); (try have P5 := P5.out); (try have P6 := P6.out); simp [inR, spDeep, spFresh, *] <;> omega)).symm), Keeps.trans Hkk.out (by (repeat' with_reducible (first | exact Keeps.refl _ _ | assumption | apply Keeps.drew | apply Keeps.drewN | apply Keeps.alloc | refine Keeps.trans ?_ hk1 | refine Keeps.trans ?_ hk2 | refine Keeps.trans ?_ hk3 | refine Keeps.trans ?_ hk4)))⟩
          · have P3 := Lib.hid p3
            go_wp2_with fail
            first | (rw [← hca]; go_roundw) | go_roundw | (refine ⟨?rel, ?measure⟩)
            case rel =>
              refine ⟨i + 1, by omega, by go_num, ?_, Keeps.trans Hk0.out (by (repeat' with_reducible (first | exact Keeps.refl _ _ | assumption | apply Keeps.drew | apply Keeps.drewN | apply Keeps.alloc | refine Keeps.trans ?_ hk1 | refine Keeps.trans ?_ hk2 | refine Keeps.trans ?_ hk3 | refine Keeps.trans ?_ hk4)))⟩
              intro j hj
              by_cases ej : j = i
              · rw [ej]; (try have P1 := P1.out); (try have P2 := P2.out); (try have P3 := P3.out); (try have P4 := P4.out); (try have P5 := P5.out); (try have P6 := P6.out); simp [inR, spDeep, spFresh, *] <;> omega
              · exact Hg.out j (by omega)
            case measure => simp [intOf]; omega
      · have P1 := Lib.hid p1
        have q1 : (c.chan i 0 == 1) = false := by simpa using p1
        have r1 : (c.chan i 0 != 1) = true := by simpa using p1
        clear p1
        by_cases p2 : c.chan i 0 = 2
        · have P2 := Lib.hid p2
          have q2 : (c.chan i 0 == 2) = true := by simpa using p2
          have r2 : (c.chan i 0 != 2) = false := by simpa using p2
          clear p2
          by_cases p3 : c.chan i 5 = 0
          · have P3 := Lib.hid p3
            have q3 : (c.chan i 5 == 0) = true := by simpa using p3
            have r3 : (c.chan i 5 != 0) = false := by simpa using p3
            clear p3
            go_wp2_with fail
            first | (rw [← hca]; go_roundw) | go_roundw | (refine ⟨?rel, ?measure⟩)
            case rel =>
              refine ⟨i + 1, by omega, by go_num, ?_, Keeps.trans Hk0.out (by (repeat' with_reducible (first | exact Keeps.refl _ _ | assumption | apply Keeps.drew | apply Keeps.drewN | apply Keeps.alloc | refine Keeps.trans ?_ hk1 | refine Keeps.trans ?_ hk2 | refine Keeps.trans ?_ hk3 | refine Keeps.trans ?_ hk4)))⟩
              intro j hj
              by_cases ej : j = i
              · rw [ej]; (try have P1 := P1.out); (try have P2 := P2.out); (try have P3 := P3.out); (try have P4 := P4.out); (try have P5 := P5.out); (try have P6 := P6.out); simp [inR, spDeep, spFresh, *] <;> omega
              · exact Hg.out j (by omega)
            case measure => simp [intOf]; omega
          · have P3 := Lib.hid p3
            have q3 : (c.chan i 5 == 0) = false := by simpa using p3
            have r3 : (c.chan i 5 != 0) = true := by simpa using p3
            clear p3
            go_wp2_with fail
            go_ret
            exact ⟨ret_bool (by rw [← HG.out]; exact (anyOf_true hlt (by (try have P1 := P1.out); (try have P2 := P2.out); (try have P3 := P3.out); (try have P4 := P4.out); (try have P5 := P5.out); (try have P6 := P6.out); simp [inR, spDeep, spFresh, *] <;> omega)).symm), Keeps.trans Hkk.out (by (repeat' with_reducible (first | exact Keeps.refl _ _ | assumption | apply Keeps.drew | apply Keeps.drewN | apply Keeps.alloc | refine Keeps.trans ?_ hk1 | refine Keeps.trans ?_ hk2 | refine Keeps.trans ?_ hk3 | refine Keeps.trans ?_ hk4)))⟩
        · have P2 := Lib.hid p2
          have q2 : (c.chan i 0 == 2) = false := by simpa using p2
          have r2 : (c.chan i 0 != 2) = true := by simpa using p2
          clear p2
          go_wp2_with fail
          first | (rw [← hca]; go_roundw) | go_roundw | (refine ⟨?rel, ?measure⟩)
          case rel =>
            refine ⟨i + 1, by omega, by go_num, ?_, Keeps.trans Hk0.out (by (repeat' with_reducible (first | exact Keeps.refl _ _ | assumption | apply Keeps.drew | apply Keeps.drewN | apply Keeps.alloc | refine Keeps.trans ?_ hk1 | refine Keeps.trans ?_ hk2 | refine Keeps.trans ?_ hk3 | refine Keeps.trans ?_ hk4)))⟩
            intro j hj
            by_cases ej : j = i
            · rw [ej]; (try have P1 := P1.out); (try have P2 := P2.out); (try have P3 := P3.out); (try have P4 := P4.out); (try have P5 := P5.out); (try have P6 := P6.out); simp [inR, spDeep, spFresh, *] <;> omega
            · exact Hg.out j (by omega)
          case measure => simp [intOf]; omega
    · go_wp2
      go_ret
      exact ⟨ret_bool (by rw [← HG.out]; exact (anyOf_false fun j hj => Hg.out j (by omega)).symm), Hkk.out⟩

end Go.Proofs.Ytpkjffiajidfcaa

/- chans of package portholeref07. -/
namespace Go.Proofs.Ytpkjffiajidfcaa
open Go.RowKit


set_option maxRecDepth 100000 in
set_option maxHeartbeats 4000000 in
theorem refChans_11 (c : CfgV) (w : World) (h : CfgAt w c) :
    Calls Try.prog 43 #[.agg c.cells, .int .i64 11] w (Says (.bool (spRule c 10)) w) := by
  have hpn := h.pn
  have hcn := h.cn
  have Hc := Lib.hid h
  clear h
  generalize hG : spRule c 10 = G
  have HG := Lib.hid (hG : anyOf (fun i => c.chan i 0 == 1 && c.chan i 6 != 0) c.cn = G)
  clear hG
  simp only [CfgV.cells]
  go_enter Try.func43, Try.ntmps43
  go_wp2_with fail
  go_loopw [5] (fun v wr => ∃ i : Nat, i ≤ c.cn ∧ v = .int .i64 i ∧ (∀ j, j < i → (fun i => c.chan i 0 == 1 && c.chan i 6 != 0) j = false) ∧ Keeps [] (w.alloc (.cells c.cells 31)) wr) (fun v _ => c.cn - (intOf v).toNat)
  case atStart => exact ⟨0, Nat.zero_le _, rfl, by intro j hj; omega, Keeps.refl _ _⟩
  case round =>
    obtain ⟨i, hi, rfl, hg0, hk⟩ := hrel
    have Hg := Lib.hid hg0
    clear hg0
    have hbx : Blk wr w.heap.size c.cells 31 := (Blk.new _ _ _).keep hk (by simp)
    have hbl := hbx.lt
    have hbc := hbx.cell
    have Hk0 := Lib.hid hk
    have Hkk := Lib.hid (Keeps.trans (by (repeat' with_reducible (first | exact Keeps.refl _ _ | assumption | apply Keeps.drew | apply Keeps.drewN | apply Keeps.alloc))) hk : Keeps [] w wr)
    by_cases hlt : i < c.cn
    · obtain ⟨b, o, hca, hb, hrow⟩ := Hc.out.chans.resolve_left (by omega)
      have hi0 : (0 : Int) ≤ (i : Int) := Int.natCast_nonneg _
      have hi1 : (i : Int) < (c.cn : Int) := by omega
      have hbr : b < wr.heap.size := by have := hk.size; simp at this; omega
      have hk := Hkk.out
      have c0 : wr.cell? ⟨b, o + i * 7, none⟩ = some (.int .i64 (c.chan i 0)) := (Keeps.cell hk hb (by simp)).trans (by simpa [chs] using hrow i hlt 0 (by omega))
      have c1 : wr.cell? ⟨b, o + i * 7 + 1, none⟩ = some (.int .i64 (c.chan i 1)) := (Keeps.cell hk hb (by simp)).trans (by simpa [chs] using hrow i hlt 1 (by omega))
      have c2 : wr.cell? ⟨b, o + i * 7 + 2, none⟩ = some (.int .i64 (c.chan i 2)) := (Keeps.cell hk hb (by simp)).trans (by simpa [chs] using hrow i hlt 2 (by omega))
      have c3 : wr.cell? ⟨b, o + i * 7 + 3, none⟩ = some (.int .i64 (c.chan i 3)) := (Keeps.cell hk hb (by simp)).trans (by simpa [chs] using hrow i hlt 3 (by omega))
      have c4 : wr.cell? ⟨b, o + i * 7 + 4, none⟩ = some (.int .i64 (c.chan i 4)) := (Keeps.cell hk hb (by simp)).trans (by simpa [chs] using hrow i hlt 4 (by omega))
      have c5 : wr.cell? ⟨b, o + i * 7 + 5, none⟩ = some (.int .i64 (c.chan i 5)) := (Keeps.cell hk hb (by simp)).trans (by simpa [chs] using hrow i hlt 5 (by omega))
      have c6 : wr.cell? ⟨b, o + i * 7 + 6, none⟩ = some (.int .u32 (c.chan i 6)) := (Keeps.cell hk hb (by simp)).trans (by simpa [chs] using hrow i hlt 6 (by omega))
      clear hrow hk
      by_cases p1 : c.chan i 0 = 1
      · have P1 := Lib.hid p1
        have q1 : (c.chan i 0 == 1) = true := by simpa using p1
        have r1 : (c.chan i 0 != 1) = false := by simpa using p1
        clear p1
        by_cases p2 : c.chan i 6 = 0
        · have P2 := Lib.hid p2
          have q2 : (c.chan i 6 == 0) = true := by simpa using p2
          have r2 : (c.chan i 6 != 0) = false := by simpa using p2
          clear p2
          go_wp2_with fail
          first | (rw [← hca]; go_roundw) | go_roundw | (refine ⟨?rel, ?measure⟩)
          case rel =>
            refine ⟨i + 1, by omega, by go_num, ?_, Keeps.trans Hk0.out (by (repeat' with_reducible (first | exact Keeps.refl _ _ | assumption | apply Keeps.drew | apply Keeps.drewN | apply Keeps.alloc | refine Keeps.trans ?_ hk1 | refine Keeps.trans ?_ hk2 | refine Keeps.trans ?_ hk3 | refine Keeps.trans ?_ hk4)))⟩
            intro j hj
            by_cases ej : j = i
            · rw [ej]; (try have P1 := P1.out); (try have P2 := P2.out); (try have P3 := P3.out); (try have P4 := P4.out); (try have P5 := P5.out); (try have P6 := P6.out); simp [inR, spDeep, spFresh, *] <;> omega
            · exact Hg.out j (by omega)
          case measure => simp [intOf]; omega
        · have P2 := Lib.hid p2
          have q2 : (c.chan i 6 == 0) = false := by simpa using p2
          have r2 : (c.chan i 6 != 0) = true := by simpa using p2
          clear p2
          go_wp2_with fail
          go_ret
          exact ⟨ret_bool (by rw [← HG.out]; exact (anyOf_true hlt (by (try have P1 := P1.out); (try have P2 := P2.out); (try have P3 := P3.out); (try have P4 := P4.out); (try have P5 := P5.out); (try have P6 := P6.out); simp [inR, spDeep, spFresh, *] <;> omega)).symm), Keeps.trans Hkk.out (by (repeat' with_reducible (first | exact Keeps.refl _ _ | assumption | apply Keeps.drew | apply Keeps.drewN | apply Keeps.alloc | refine Keeps.trans ?_ hk1 | refine Keeps.trans ?_ hk2 | refine Keeps.trans ?_ hk3 | refine Keeps.trans ?_ hk4)))⟩
      · have P1 := Lib.hid p1
        have q1 : (c.chan i 0 == 1) = false := by simpa using p1
        have r1 : (c.chan i 0 != 1) = true := by simpa using p1
        clear p1
        go_wp2_with fail
        first | (rw [← hca]; go_roundw) | go_roundw | (refine ⟨?rel, ?measure⟩)
        case rel =>
          refine ⟨i + 1, by omega, by go_num, ?_, Keeps.trans Hk0.out (by (repeat' with_reducible (first | exact Keeps.refl _ _ | assumption | apply Keeps.drew | apply Keeps.drewN | apply Keeps.alloc | refine Keeps.trans ?_ hk1 | refine Keeps.trans ?_ hk2 | refine Keeps.trans ?_ hk3 | refine Keeps.trans ?_ hk4)))⟩
          intro j hj
          by_cases ej : j = i
          · rw [ej]; (try have P1 := P1.out); (try have P2 := P2.out); (try have P3 := P3.out); (try have P4 := P4.out); (try have P5 := P5.out); (try have P6 := P6.out); simp [inR, spDeep, spFresh, *] <;> omega
          · exact Hg.out j (by omega)
        case measure => simp [intOf]; omega
    · go_wp2
      go_ret
      exact ⟨ret_bool (by rw [← HG.out]; exact (anyOf_false fun j hj => Hg.out j (by omega)).symm), Hkk.out⟩

end Go.Proofs.Ytpkjffiajidfcaa
