/-
  What is proved here: Check of flows (10.1), of the document's reference and of the program, by their contracts.
-/
import Derived.Test.YtmljdgedndbipaaDoorScedW1
namespace Go.Proofs.YtmljdgedndbipaaDoor
open Go.RowKit

set_option maxHeartbeats 4000000 in
set_option maxRecDepth 100000 in
theorem ScedCheck_any (v : Value) (fs : Fl) (w : World) (h : Flows w v fs) :
    Calls Tryd.prog 5 #[v] w fun e w' => e = .returned (.int .i64 (scedChk fs)) ∧ Below w.heap.size w w' := by
  have hF := h
  obtain ⟨a, cap, rfl, hl, hc⟩ := h
  by_cases hlen : 1 ≤ fs.length ∧ fs.length ≤ 8
  · have hcc : scedChk fs = scedGo fs fs.length 0 := if_pos hlen
    obtain ⟨h1, h2⟩ := hlen
    rw [hcc]; clear hcc
    obtain ⟨b, off, rfl, hcell⟩ := hc (by omega)
    have HC := Lib.hid hcell
    have hbw : b < w.heap.size := by obtain ⟨_, _, q, _⟩ := hcell 0 (by omega); exact World.block_lt_of_cell? w _ q
    clear hc hcell
    go_enter Tryd.func5, Tryd.ntmps5
    go_wp2_with (go_at_call 11; refine (within_yes _ _ _ _ (by omega) (by omega)).mono ?_; rintro e w' ⟨rfl, rfl⟩)
    go_loopg [15] fs.length (fun g i wr => Below w.heap.size w wr ∧ ∃ k : Nat, k + g = fs.length ∧ i = .int .i64 k ∧ scedGo fs fs.length 0 = scedGo fs g k)
    case atStart => exact ⟨Below.refl _ _, 0, by omega, rfl, rfl⟩
    case round =>
      obtain ⟨hb, k, hk, rfl, hgo⟩ := hrel
      have HG := Lib.hid hgo; clear hgo
      by_cases hlt : k < fs.length
      · obtain ⟨n, rfl⟩ : ∃ n, gk = n + 1 := ⟨gk - 1, by omega⟩
        obtain ⟨c, p, q1, q2, q3, q4⟩ := HC.out k hlt
        obtain ⟨c0, p0, q5, q6, q7, q8⟩ := HC.out 0 (by omega)
        obtain ⟨ac, cc, rfl, hlc, hcc⟩ := q3
        have q4' := q4
        obtain ⟨ap, cp, rfl, hlp, hcp⟩ := q4
        obtain ⟨a0, cp0, rfl, hl0, hcp0⟩ := q7
        clear hcp hcp0 q6 q8
        -- the world behind the box
        obtain ⟨W1, hW1⟩ : ∃ W1, W1 = wr.alloc (.cells #[.slice ac (fC fs k).length cc, .slice ap (fP fs k).length cp] 30) := ⟨_, rfl⟩
        have hb1 : Below w.heap.size w W1 := by rw [hW1]; exact hb.alloc hb.size _
        have q1' : wr.cell? ⟨b, off + k * 2, none⟩ = some (.slice ac (fC fs k).length cc) := (hb.cell (p := ⟨b, off + k * 2, none⟩) hbw).trans q1
        have q2' : wr.cell? ⟨b, off + k * 2 + 1, none⟩ = some (.slice ap (fP fs k).length cp) := (hb.cell (p := ⟨b, off + k * 2 + 1, none⟩) hbw).trans q2
        have q5' : W1.cell? ⟨b, off, none⟩ = some (.slice a0 (fC fs 0).length cp0) := (hb1.cell (p := ⟨b, off, none⟩) hbw).trans (by simpa using q5)
        have q4W := q4'.below hb1 (Nat.le_refl _)
        have hCC := Lib.hid (CurveCheck_any _ _ W1 q4W)
        have HB1 := Lib.hid hb1
        rw [hW1] at q5' hCC
        have HQ := Lib.hid hcc
        have HWW := Lib.hid hW1
        clear q1 q2 q5 q4' q4W hcc hb1 hW1
        by_cases hcv : curveChk (fP fs k) = 0
        · have HCV := Lib.hid hcv
          rw [hcv] at hCC
          clear hcv
          by_cases hform : (fC fs k).length = (fC fs 0).length
          · have hform' : (((fC fs k).length : Int) != ((fC fs 0).length : Int)) = false := by rw [hform]; simp
            have HF := Lib.hid hform; clear hform
            by_cases hran : (fP fs k).length ≤ (fC fs k).length
            · go_wp2_with (go_at_call 12; refine hCC.out.mono ?_; rintro e w' ⟨rfl, rfl⟩)
              go_quiet (fail)
              go_wp2
              go_ret
              exact ⟨ret_int (by rw [HG.out, scedGo_bad _ _ _ 2 (flow_range HCV.out HF.out hran) (by decide)]), below_drewN (HWW.out ▸ HB1.out) _⟩
            · go_wp2_with (go_at_call 12; refine hCC.out.mono ?_; rintro e w' ⟨rfl, rfl⟩)
              go_quiet (fail)
              go_wp2
              go_loopg [6, 44] (fC fs k).length (fun g s i wr => Below w.heap.size w wr ∧ ∃ (j : Nat) (t : Int), j + g = (fC fs k).length ∧ i = .int .i64 j ∧ s = .int .i64 t ∧ 0 ≤ t ∧ t ≤ 100 ∧ comeGo (fC fs k) (fC fs k).length 0 0 = comeGo (fC fs k) g j t)
              case atStart => exact ⟨below_drewN (HWW.out ▸ HB1.out) _, 0, 0, by omega, rfl, rfl, by decide, by decide, rfl⟩
              case round =>
                obtain ⟨hb2, j, t, hj, rfl, rfl, ht0, ht1, hcome⟩ := hrel
                have HCM := Lib.hid hcome; clear hcome
                by_cases hltj : j < (fC fs k).length
                · obtain ⟨m, rfl⟩ : ∃ m, gk = m + 1 := ⟨gk - 1, by omega⟩
                  obtain ⟨bc, oc, rfl, hcellc⟩ := HQ.out (by omega)
                  have hcj := hcellc j hltj
                  have hbc : bc < w.heap.size := World.block_lt_of_cell? w _ hcj
                  have hcj' : wr.cell? ⟨bc, oc + j, none⟩ = some (.int .i64 (gi (fC fs k) j)) := (hb2.cell (p := ⟨bc, oc + j, none⟩) hbc).trans hcj
                  have HX := Lib.hid hcellc
                  clear hcellc hcj
                  have hfl := Lib.hid (flow_come HCV.out HF.out hran)
                  have HR := Lib.hid hran; clear hran
                  by_cases hin : 0 ≤ gi (fC fs k) j ∧ gi (fC fs k) j ≤ 100
                  · have HI := Lib.hid hin
                    obtain ⟨hi1, hi2⟩ := hin
                    by_cases hm : 100 < t + gi (fC fs k) j
                    · go_wp2_with (go_at_call 11; refine (within_yes _ _ _ _ (by omega) (by omega)).mono ?_; rintro e w' ⟨rfl, rfl⟩)
                      go_ret
                      exact ⟨ret_int (by rw [HG.out, scedGo_bad _ _ _ 4 (by rw [hfl.out, HCM.out, comeGo_many _ _ _ _ HI.out hm]) (by decide)]), hb2⟩
                    · go_wp2_with (go_at_call 11; refine (within_yes _ _ _ _ (by omega) (by omega)).mono ?_; rintro e w' ⟨rfl, rfl⟩)
                      go_roundg m
                      case measure => omega
                      case rel => exact ⟨hb2, j + 1, t + gi (fC fs k) j, by omega, by go_num, rfl, by omega, by omega, by rw [HCM.out, comeGo_on _ _ _ _ HI.out (by omega)]⟩
                  · go_wp2_with (go_at_call 11; refine (within_no _ _ _ _ hin).mono ?_; rintro e w' ⟨rfl, rfl⟩)
                    go_ret
                    exact ⟨ret_int (by rw [HG.out, scedGo_bad _ _ _ 2 (by rw [hfl.out, HCM.out, comeGo_bad _ _ _ _ hin]) (by decide)]), hb2⟩
                · go_wp2
                  go_roundg n
                  case measure => omega
                  case rel => exact ⟨hb2, k + 1, by omega, by go_num, by rw [HG.out, scedGo_on _ _ _ (by rw [flow_come HCV.out HF.out hran, HCM.out, show gk = 0 by omega]; rfl)]⟩
          · have hform' : (((fC fs k).length : Int) != ((fC fs 0).length : Int)) = true := by rw [bne_iff_ne]; omega
            go_wp2_with (go_at_call 12; refine hCC.out.mono ?_; rintro e w' ⟨rfl, rfl⟩)
            go_quiet (fail)
            go_wp2
            go_ret
            exact ⟨ret_int (by rw [HG.out, scedGo_bad _ _ _ 3 (flow_form HCV.out hform) (by decide)]), below_drewN (HWW.out ▸ HB1.out) _⟩
        · have hne : (curveChk (fP fs k) != 0) = true := by rw [bne_iff_ne]; exact hcv
          go_wp2_with (go_at_call 12; refine hCC.out.mono ?_; rintro e w' ⟨rfl, rfl⟩)
          go_ret
          exact ⟨ret_int (by rw [HG.out, scedGo_bad _ _ _ _ (flow_curve rfl hcv) hcv]), HWW.out ▸ HB1.out⟩
      · go_wp2
        go_ret
        exact ⟨ret_int (by rw [HG.out, show gk = 0 by omega]; rfl), hb⟩
  · have hcc : scedChk fs = 4 := if_neg hlen
    rw [hcc]; clear hcc
    go_enter Tryd.func5, Tryd.ntmps5
    go_wp2_with (go_at_call 11; refine (within_no _ _ _ _ (by omega)).mono ?_; rintro e w' ⟨rfl, rfl⟩)
    go_ret
    exact ⟨rfl, Below.refl _ _⟩

set_option maxHeartbeats 4000000 in
set_option maxRecDepth 100000 in
theorem scedCheck_any (v : Value) (fs : Fl) (w : World) (h : Flows w v fs) :
    Calls Tryd.prog 15 #[v] w fun e w' => e = .returned (errV (scedChk fs)) ∧ Below w.heap.size w w' := by
  have hF := h
  obtain ⟨a, cap, rfl, hl, hc⟩ := h
  by_cases hlen : 1 ≤ fs.length ∧ fs.length ≤ 8
  · have hcc : scedChk fs = scedGo fs fs.length 0 := if_pos hlen
    obtain ⟨h1, h2⟩ := hlen
    rw [hcc]; clear hcc
    obtain ⟨b, off, rfl, hcell⟩ := hc (by omega)
    have HC := Lib.hid hcell
    have hbw : b < w.heap.size := by obtain ⟨_, _, q, _⟩ := hcell 0 (by omega); exact World.block_lt_of_cell? w _ q
    clear hc hcell
    go_enter Tryd.func15, Tryd.ntmps15
    go_wp2
    go_loopg [20] fs.length (fun g i wr => Below w.heap.size w wr ∧ ∃ k : Nat, k + g = fs.length ∧ i = .int .i64 k ∧ scedGo fs fs.length 0 = scedGo fs g k)
    case atStart => exact ⟨Below.refl _ _, 0, by omega, rfl, rfl⟩
    case round =>
      obtain ⟨hb, k, hk, rfl, hgo⟩ := hrel
      have HG := Lib.hid hgo; clear hgo
      by_cases hlt : k < fs.length
      · obtain ⟨n, rfl⟩ : ∃ n, gk = n + 1 := ⟨gk - 1, by omega⟩
        obtain ⟨c, p, q1, q2, q3, q4⟩ := HC.out k hlt
        obtain ⟨c0, p0, q5, q6, q7, q8⟩ := HC.out 0 (by omega)
        obtain ⟨ac, cc, rfl, hlc, hcc⟩ := q3
        have q4' := q4
        obtain ⟨ap, cp, rfl, hlp, hcp⟩ := q4
        obtain ⟨a0, cp0, rfl, hl0, hcp0⟩ := q7
        clear hcp hcp0 q6 q8
        -- the world behind the box
        obtain ⟨W1, hW1⟩ : ∃ W1, W1 = wr.alloc (.cells #[.slice ac (fC fs k).length cc, .slice ap (fP fs k).length cp] 46) := ⟨_, rfl⟩
        have hb1 : Below w.heap.size w W1 := by rw [hW1]; exact hb.alloc hb.size _
        have q1' : wr.cell? ⟨b, off + k * 2, none⟩ = some (.slice ac (fC fs k).length cc) := (hb.cell (p := ⟨b, off + k * 2, none⟩) hbw).trans q1
        have q2' : wr.cell? ⟨b, off + k * 2 + 1, none⟩ = some (.slice ap (fP fs k).length cp) := (hb.cell (p := ⟨b, off + k * 2 + 1, none⟩) hbw).trans q2
        have q5' : W1.cell? ⟨b, off, none⟩ = some (.slice a0 (fC fs 0).length cp0) := (hb1.cell (p := ⟨b, off, none⟩) hbw).trans (by simpa using q5)
        have q4W := q4'.below hb1 (Nat.le_refl _)
        have hCC := Lib.hid (Check_any _ _ W1 q4W)
        have HB1 := Lib.hid hb1
        rw [hW1] at q5' hCC
        have HQ := Lib.hid hcc
        have HWW := Lib.hid hW1
        clear q1 q2 q5 q4' q4W hcc hb1 hW1
        by_cases hcv : curveChk (fP fs k) = 0
        · have HCV := Lib.hid hcv
          rw [errV_zero hcv] at hCC
          clear hcv
          by_cases hform : (fC fs k).length = (fC fs 0).length
          · have hform' : (((fC fs k).length : Int) != ((fC fs 0).length : Int)) = false := by rw [hform]; simp
            have HF := Lib.hid hform; clear hform
            by_cases hran : (fP fs k).length ≤ (fC fs k).length
            · go_wp2_with (go_at_call 19; refine hCC.out.mono ?_; rintro e w' ⟨rfl, rfl⟩)
              go_quiet (fail)
              go_wp2
              go_ret
              exact ⟨ret_err (by rw [HG.out, scedGo_bad _ _ _ 2 (flow_range HCV.out HF.out hran) (by decide)]) (by decide), below_drewN (HWW.out ▸ HB1.out) _⟩
            · go_wp2_with (go_at_call 19; refine hCC.out.mono ?_; rintro e w' ⟨rfl, rfl⟩)
              go_quiet (fail)
              go_wp2
              go_loopg [6, 51] (fC fs k).length (fun g s i wr => Below w.heap.size w wr ∧ ∃ (j : Nat) (t : Int), j + g = (fC fs k).length ∧ i = .int .i64 j ∧ s = .int .i64 t ∧ 0 ≤ t ∧ t ≤ 100 ∧ comeGo (fC fs k) (fC fs k).length 0 0 = comeGo (fC fs k) g j t)
              case atStart => exact ⟨below_drewN (HWW.out ▸ HB1.out) _, 0, 0, by omega, rfl, rfl, by decide, by decide, rfl⟩
              case round =>
                obtain ⟨hb2, j, t, hj, rfl, rfl, ht0, ht1, hcome⟩ := hrel
                have HCM := Lib.hid hcome; clear hcome
                by_cases hltj : j < (fC fs k).length
                · obtain ⟨m, rfl⟩ : ∃ m, gk = m + 1 := ⟨gk - 1, by omega⟩
                  obtain ⟨bc, oc, rfl, hcellc⟩ := HQ.out (by omega)
                  have hcj := hcellc j hltj
                  have hbc : bc < w.heap.size := World.block_lt_of_cell? w _ hcj
                  have hcj' : wr.cell? ⟨bc, oc + j, none⟩ = some (.int .i64 (gi (fC fs k) j)) := (hb2.cell (p := ⟨bc, oc + j, none⟩) hbc).trans hcj
                  have HX := Lib.hid hcellc
                  clear hcellc hcj
                  have hfl := Lib.hid (flow_come HCV.out HF.out hran)
                  have HR := Lib.hid hran; clear hran
                  by_cases hin : 0 ≤ gi (fC fs k) j ∧ gi (fC fs k) j ≤ 100
                  · have HI := Lib.hid hin
                    obtain ⟨hi1, hi2⟩ := hin
                    by_cases hm : 100 < t + gi (fC fs k) j
                    · go_wp2
                      go_ret
                      exact ⟨ret_err (by rw [HG.out, scedGo_bad _ _ _ 4 (by rw [hfl.out, HCM.out, comeGo_many _ _ _ _ HI.out hm]) (by decide)]) (by decide), hb2⟩
                    · go_wp2
                      go_roundg m
                      case measure => omega
                      case rel => exact ⟨hb2, j + 1, t + gi (fC fs k) j, by omega, by go_num, rfl, by omega, by omega, by rw [HCM.out, comeGo_on _ _ _ _ HI.out (by omega)]⟩
                  · have hin' : gi (fC fs k) j < 0 ∨ 100 < gi (fC fs k) j := by omega
                    have HN := Lib.hid hin; clear hin
                    rcases hin' with hi1 | hi1
                    · go_wp2
                      go_ret
                      exact ⟨ret_err (by rw [HG.out, scedGo_bad _ _ _ 2 (by rw [hfl.out, HCM.out, comeGo_bad _ _ _ _ HN.out]) (by decide)]) (by decide), hb2⟩
                    · have hi2 : ¬ gi (fC fs k) j < 0 := by omega
                      go_wp2
                      go_ret
                      exact ⟨ret_err (by rw [HG.out, scedGo_bad _ _ _ 2 (by rw [hfl.out, HCM.out, comeGo_bad _ _ _ _ HN.out]) (by decide)]) (by decide), hb2⟩
                · go_wp2
                  go_roundg n
                  case measure => omega
                  case rel => exact ⟨hb2, k + 1, by omega, by go_num, by rw [HG.out, scedGo_on _ _ _ (by rw [flow_come HCV.out HF.out hran, HCM.out, show gk = 0 by omega]; rfl)]⟩
          · have hform' : (((fC fs k).length : Int) != ((fC fs 0).length : Int)) = true := by rw [bne_iff_ne]; omega
            go_wp2_with (go_at_call 19; refine hCC.out.mono ?_; rintro e w' ⟨rfl, rfl⟩)
            go_quiet (fail)
            go_wp2
            go_ret
            exact ⟨ret_err (by rw [HG.out, scedGo_bad _ _ _ 3 (flow_form HCV.out hform) (by decide)]) (by decide), below_drewN (HWW.out ▸ HB1.out) _⟩
        · rw [errV_ne hcv] at hCC
          have HCV := Lib.hid hcv; clear hcv
          go_wp2_with (go_at_call 19; refine hCC.out.mono ?_; rintro e w' ⟨rfl, rfl⟩)
          go_ret
          exact ⟨ret_err (by rw [HG.out, scedGo_bad _ _ _ _ (flow_curve rfl HCV.out) HCV.out]) HCV.out, HWW.out ▸ HB1.out⟩
      · go_wp2
        go_ret
        exact ⟨ret_nil (by rw [HG.out, show gk = 0 by omega]; rfl), hb⟩
  · have hcc : scedChk fs = 4 := if_neg hlen
    rw [hcc]; clear hcc
    have hlen' : fs.length = 0 ∨ 8 < fs.length := by omega
    rcases hlen' with h1 | h1
    · have h2 : fs.length < 1 := by omega
      clear hlen h1
      go_enter Tryd.func15, Tryd.ntmps15
      go_wp2
      go_ret
      exact ⟨ret_err rfl (by decide), Below.refl _ _⟩
    · have h2 : ¬ fs.length < 1 := by omega
      clear hlen
      go_enter Tryd.func15, Tryd.ntmps15
      go_wp2
      go_ret
      exact ⟨ret_err rfl (by decide), Below.refl _ _⟩
end Go.Proofs.YtmljdgedndbipaaDoor
