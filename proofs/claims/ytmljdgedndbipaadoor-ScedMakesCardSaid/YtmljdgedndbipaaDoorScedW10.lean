/-
  What is proved here: the law's own walk (ScedMakes): whatever the flows and ticks are, it answers true and leaves memory that existed as it was.
-/
import Derived.Test.YtmljdgedndbipaaDoorScedW5
import Derived.Test.YtmljdgedndbipaaDoorScedW6
import Derived.Test.YtmljdgedndbipaaDoorScedW7
import Derived.Test.YtmljdgedndbipaaDoorScedW8
import Derived.Test.YtmljdgedndbipaaDoorScedW9
import Derived.Test.YtmljdgedndbipaaDoorErr4
import Derived.Deep.RegionHeld3
namespace Go.Proofs.YtmljdgedndbipaaDoor
open Go.RowKit

def TrueP (w : World) (e : Ending) (w' : World) : Prop := e = .returned (.bool true) ∧ Below w.heap.size w w'

theorem atB_self (e : Int) : atB e (-1) e (-1) = true := by simp [atB]
/-- The plan's block, and what was there before. -/
def PlanAt (w : World) (b : Nat) (x y z : Value) (W : World) : Prop :=
  Below w.heap.size w W ∧ W.cell? ⟨b, 0, none⟩ = some x ∧ W.cell? ⟨b, 1, none⟩ = some y ∧ W.cell? ⟨b, 2, none⟩ = some z
theorem PlanAt.on {w W W' : World} {b : Nat} {x y z : Value} (h : PlanAt w b x y z W) (hb : Below W.heap.size W W') : PlanAt w b x y z W' := by
  obtain ⟨h0, h1, h2, h3⟩ := h
  have hlt : b < W.heap.size := World.block_lt_of_cell? W _ h1
  refine ⟨h0.trans (hb.mono h0.size), ?_, ?_, ?_⟩
  · rw [hb.cell (p := ⟨b, 0, none⟩) hlt]; exact h1
  · rw [hb.cell (p := ⟨b, 1, none⟩) hlt]; exact h2
  · rw [hb.cell (p := ⟨b, 2, none⟩) hlt]; exact h3
theorem plan_keeps {w wr w3 : World} (hb : Below w.heap.size w wr) (hb3 : Below wr.heap.size wr w3) (x y z : Value) :
    Below w.heap.size w (w3.alloc (.cells #[x, y, z] 35)) ∧ ∀ W, Below (w3.alloc (.cells #[x, y, z] 35)).heap.size (w3.alloc (.cells #[x, y, z] 35)) W → PlanAt w w3.heap.size x y z W := by
  have h1 : Below w.heap.size w (w3.alloc (.cells #[x, y, z] 35)) := (hb.trans (hb3.mono hb.size)).alloc (Nat.le_trans hb.size hb3.size) _
  obtain ⟨k0, k1, k2, _, _, _⟩ := block3 (heap_alloc_new w3 (.cells #[x, y, z] 35))
  exact ⟨h1, fun W hW => PlanAt.on ⟨h1, k0, k1, k2⟩ hW⟩

theorem below_unbox {w W : World} {o : Obj} (h : Below (w.alloc o).heap.size (w.alloc o) W) : Below w.heap.size w W :=
  ((Below.refl _ _).alloc (Nat.le_refl _) o).trans (h.mono (by rw [size_alloc]; omega))

theorem Ints.form {w : World} {v : Value} {xs : List Int} (h : Ints w v xs) : ∃ a n c, v = .slice a n c := by obtain ⟨a, c, rfl, _⟩ := h; exact ⟨_, _, _, rfl⟩
theorem Lists.form {w : World} {v : Value} {xs : List (List Int)} (h : Lists w v xs) : ∃ a n c, v = .slice a n c := by obtain ⟨a, c, rfl, _⟩ := h; exact ⟨_, _, _, rfl⟩

/-- How far the law has looked at ticks, and how many cells it has counted. -/
def LR (fs : Fl) (x : Int) (g : Nat) (vE vC vI : Value) : Prop :=
  ∃ (k : Nat) (e c : Int), vE = .int .i64 e ∧ vC = .int .i64 c ∧ vI = .int .i64 k ∧ k ≤ fs.length ∧
    ((e = 0 ∧ k + g = fs.length ∧ scedChk fs = 0 ∧ 0 ≤ c ∧ c ≤ 300000000 * k ∧ rangeGo fs x fs.length 0 = rangeGo fs x g k) ∨ (e ≠ 0 ∧ e = makeChk fs x))
theorem LR.start (fs : Fl) (x : Int) : LR fs x fs.length (.int .i64 (scedChk fs)) (.int .i64 0) (.int .i64 0) := by
  refine ⟨0, scedChk fs, 0, rfl, rfl, rfl, by omega, ?_⟩
  by_cases h : scedChk fs = 0
  · exact .inl ⟨h, by omega, h, by omega, by omega, rfl⟩
  · exact .inr ⟨h, (makeChk_bad h).symm⟩
theorem LR.bad {fs : Fl} {x : Int} {g k : Nat} {c : Int} (hs : scedChk fs = 0) (hk : k < fs.length) (hr : rangeGo fs x fs.length 0 = rangeGo fs x (g + 1) k) (hb : x < (fC fs k).length ∨ (fP fs k).length ≤ x) :
    LR fs x g (.int .i64 2) (.int .i64 c) (.int .i64 ((k : Int) + 1)) :=
  ⟨k + 1, 2, c, rfl, rfl, rfl, by omega, .inr ⟨by decide, by rw [makeChk_ok hs, hr, rangeGo_bad hb]⟩⟩
theorem LR.on {fs : Fl} {x : Int} {g k : Nat} {c : Int} (hs : scedChk fs = 0) (hk : k + (g + 1) = fs.length) (hr : rangeGo fs x fs.length 0 = rangeGo fs x (g + 1) k) (hb : ¬ (x < (fC fs k).length ∨ (fP fs k).length ≤ x)) (h0 : 0 ≤ c) (h1 : c ≤ 300000000 * (k + 1 : Nat)) :
    LR fs x g (.int .i64 0) (.int .i64 c) (.int .i64 ((k : Int) + 1)) :=
  ⟨k + 1, 0, c, rfl, rfl, rfl, by omega, .inl ⟨rfl, by omega, hs, h0, h1, by rw [hr, rangeGo_on hb]⟩⟩

set_option maxHeartbeats 4000000 in
set_option maxRecDepth 100000 in
theorem law_any (v : Value) (fs : Fl) (x : Int) (w : World) (h : Flows w v fs) (hreach : fs.length * 48 ≤ 140737488351232) (hE : EType w) (hx1 : -9223372036854775808 ≤ x) (hx2 : x ≤ 9223372036854775807) :
    Calls Tryd.prog 3 #[v, .int .i64 x] w (TrueP w) := by
  have HFl := Lib.hid (flows_any v fs w h hreach)
  have HV := Lib.hid h
  have HE := Lib.hid hE
  clear h hE
  go_enter Tryd.func3, Tryd.ntmps3
  go_wp2_with (go_at_call 4; refine HFl.out.mono ?_; rintro e w1 ⟨vF, ok, rfl, hb1, hok, hF⟩; have HB1 := Lib.hid hb1; have HOK := Lib.hid hok; have HF := Lib.hid hF; clear hb1 hok hF)
  · go_ret
    exact ⟨rfl, HB1.out⟩
  · have hok : ok = true := by cases ok <;> simp_all
    subst hok
    have hSC := ScedCheck_any vF fs w1 HF.out
    have HSC := Lib.hid hSC; clear hSC
    go_wp2_with (go_at_call 5; refine HSC.out.mono ?_; rintro e w2 ⟨rfl, hb2⟩; have HB2 := Lib.hid hb2; clear hb2)
    have hlr0 := LR.start fs x
    have HLR0 := Lib.hid hlr0; clear hlr0
    have hF2 := HF.out.below HB2.out (Nat.le_refl _)
    obtain ⟨aF, capF, rfl, hlF, _⟩ := id hF2
    have HF2 := Lib.hid hF2; clear hF2
    go_loopg [7, 8, 9] fs.length (fun g vE vC vI W => Below w2.heap.size w2 W ∧ LR fs x g vE vC vI)
    case atStart => exact ⟨Below.refl _ _, HLR0.out⟩
    case round =>
      obtain ⟨hbr, k, e, c, rfl, rfl, rfl, hkF, hlr⟩ := hrel
      rcases hlr with ⟨rfl, hkg, hsc, hc0, hc1, hrg⟩ | ⟨hne, heq⟩
      · by_cases hlt : k < fs.length
        · 
          as_aux_lemma =>
          obtain ⟨n, rfl⟩ : ∃ n, gk = n + 1 := ⟨gk - 1, by omega⟩
          obtain ⟨_, _, hok⟩ := scedChk_zero hsc
          have hfo := hok k hlt
          have hcome := hfo.come
          have hcurve := (Curve.of hfo.1).2.1
          have hlen := hfo.2.2.1
          have hFr := HF2.out.below hbr (Nat.le_refl _)
          obtain ⟨a', cap', e1, _, hc⟩ := hFr
          cases e1
          obtain ⟨b, off, rfl, hcell⟩ := hc (by omega)
          obtain ⟨vc, vp, q1, q2, q3, q4⟩ := hcell k hlt
          obtain ⟨ac, cc, rfl, hlc, hcc⟩ := q3
          obtain ⟨ap, cp, rfl, hlp, _⟩ := q4
          have HCC := Lib.hid hcc; have HCO := Lib.hid hcome; have HRG := Lib.hid hrg; have HSC := Lib.hid hsc
          have HBR := Lib.hid hbr
          clear hc hcell hcc hcome hrg hsc hok hfo hbr
          have hcs : ∀ s, s ≤ (fC fs k).length → 0 ≤ pre (fC fs k) s ∧ pre (fC fs k) s ≤ 300000000 := fun s hs => by have := pre_bd HCO.out s hs; omega
          have HPS := Lib.hid hcs; clear hcs
          rename World => w3
          by_cases h1 : x < (fC fs k).length
          · go_wp2
            go_loopg [8, 10] (fC fs k).length (fun g vC vJ W => W = w3 ∧ ∃ j : Nat, j + g = (fC fs k).length ∧ vJ = .int .i64 j ∧ vC = .int .i64 (c + pre (fC fs k) j))
            case atStart => exact ⟨rfl, 0, by omega, rfl, by simp [pre]⟩
            case round =>
              obtain ⟨rfl, j, hjg, rfl, rfl⟩ := hrel
              have hpj := HPS.out j (by omega)
              by_cases hltj : j < (fC fs k).length
              · obtain ⟨n2, rfl⟩ : ∃ n, gk = n + 1 := ⟨gk - 1, by omega⟩
                have hgj := HCO.out j hltj
                obtain ⟨bC, oC, rfl, hcC⟩ := HCC.out (by omega)
                have hct := hcC j hltj
                clear hcC
                go_wp2
                go_roundg n2
                case measure => omega
                case rel => exact ⟨rfl, j + 1, by omega, by go_num, by simp only [pre]; go_num⟩
              · have hjE : j = (fC fs k).length := by omega
                subst hjE
                go_wp2
                go_roundg n
                case measure => omega
                case rel => exact ⟨HBR.out, LR.bad HSC.out hlt HRG.out (.inl h1)⟩
          · by_cases h2 : (fP fs k).length ≤ x
            · go_wp2
              go_loopg [8, 10] (fC fs k).length (fun g vC vJ W => W = w3 ∧ ∃ j : Nat, j + g = (fC fs k).length ∧ vJ = .int .i64 j ∧ vC = .int .i64 (c + pre (fC fs k) j))
              case atStart => exact ⟨rfl, 0, by omega, rfl, by simp [pre]⟩
              case round =>
                obtain ⟨rfl, j, hjg, rfl, rfl⟩ := hrel
                have hpj := HPS.out j (by omega)
                by_cases hltj : j < (fC fs k).length
                · obtain ⟨n2, rfl⟩ : ∃ n, gk = n + 1 := ⟨gk - 1, by omega⟩
                  have hgj := HCO.out j hltj
                  obtain ⟨bC, oC, rfl, hcC⟩ := HCC.out (by omega)
                  have hct := hcC j hltj
                  clear hcC
                  go_wp2
                  go_roundg n2
                  case measure => omega
                  case rel => exact ⟨rfl, j + 1, by omega, by go_num, by simp only [pre]; go_num⟩
                · have hjE : j = (fC fs k).length := by omega
                  subst hjE
                  go_wp2
                  go_roundg n
                  case measure => omega
                  case rel => exact ⟨HBR.out, LR.bad HSC.out hlt HRG.out (.inr h2)⟩
            · go_wp2
              go_loopg [8, 10] (fC fs k).length (fun g vC vJ W => W = w3 ∧ ∃ j : Nat, j + g = (fC fs k).length ∧ vJ = .int .i64 j ∧ vC = .int .i64 (c + pre (fC fs k) j))
              case atStart => exact ⟨rfl, 0, by omega, rfl, by simp [pre]⟩
              case round =>
                obtain ⟨rfl, j, hjg, rfl, rfl⟩ := hrel
                have hpj := HPS.out j (by omega)
                by_cases hltj : j < (fC fs k).length
                · obtain ⟨n2, rfl⟩ : ∃ n, gk = n + 1 := ⟨gk - 1, by omega⟩
                  have hgj := HCO.out j hltj
                  obtain ⟨bC, oC, rfl, hcC⟩ := HCC.out (by omega)
                  have hct := hcC j hltj
                  clear hcC
                  go_wp2
                  go_roundg n2
                  case measure => omega
                  case rel => exact ⟨rfl, j + 1, by omega, by go_num, by simp only [pre]; go_num⟩
                · have hjE : j = (fC fs k).length := by omega
                  subst hjE
                  go_wp2
                  go_roundg n
                  case measure => omega
                  case rel => exact ⟨HBR.out, LR.on HSC.out hkg HRG.out (by omega) (by omega) (by omega)⟩
        · have hg0 : gk = 0 := by omega
          subst hg0
          have hmk : makeChk fs x = 0 := by rw [makeChk_ok hsc, hrg]; rfl
          have hbw : Below w.heap.size w wr := (HB1.out.trans (HB2.out.mono HB1.out.size)).trans (hbr.mono (Nat.le_trans HB1.out.size HB2.out.size))
          obtain ⟨hl1, _, _⟩ := scedChk_zero hsc
          have hr0 := rangeGo_zero fs x fs.length 0 (by omega) (by rw [← makeChk_ok hsc]; exact hmk) 0 (by omega) (by omega)
          obtain ⟨T, rfl⟩ : ∃ T : Nat, x = T := ⟨x.toNat, by omega⟩
          have HMS := Lib.hid (Make_ok v fs T)
          have HRS := Lib.hid (ScedMake_any _ fs T wr (HF2.out.below hbr (Nat.le_refl _)) hmk)
          have HMK := Lib.hid hmk; have HBR := Lib.hid hbr; have HBW := Lib.hid hbw
          clear hrg hmk hbr hsc hr0 hbw
          by_cases hT : (60 : Int) < T
          · go_wp2_with fail
            go_ret
            exact ⟨rfl, HBW.out⟩
          · by_cases hC : 60 < c
            · go_wp2_with fail
              go_ret
              exact ⟨rfl, HBW.out⟩
            · go_wp2_with (first
                | (go_at_call 6; refine HRS.out.mono ?_; rintro e1 w3 ⟨vS, vP, vT, rfl, hiS, hiP, hiT, hb3⟩; have HIS := Lib.hid hiS; have HIP := Lib.hid hiP; have HIT := Lib.hid hiT; have HB3 := Lib.hid hb3; clear hiS hiP hiT hb3)
                | (go_at_call 7; refine (HMS.out w3 (HV.out.below (HBW.out.trans (HB3.out.mono HBW.out.size)) (Nat.le_refl _)) HMK.out).mono ?_; rintro e1 w4 ⟨uS, uP, uT, rfl, hiS, hiP, hiT, hb4⟩; obtain ⟨aS, nS, cS, rfl⟩ := hiS.form; obtain ⟨aP, nP, cP, rfl⟩ := hiP.form; obtain ⟨aT, nT, cT, rfl⟩ := hiT.form; have HJS := Lib.hid hiS; have HJP := Lib.hid hiP; have HJT := Lib.hid hiT; have HB4 := Lib.hid hb4; have HP := Lib.hid (plan_keeps (HBW.out.trans (HB3.out.mono HBW.out.size)) hb4 (.slice aS nS cS) (.slice aP nP cP) (.slice aT nT cT)); clear hiS hiP hiT hb4)
                | (go_at_call 8; refine (bare_any _ 0 (-1) 0 _ ErrV.nil (HE.out.below HP.out.1 HE.out.pos)).mono ?_; rintro e1 w5 ⟨rfl, hb5⟩; rw [atB_self]; have HP5 := Lib.hid (HP.out.2 w5 hb5); obtain ⟨_, k0, k1, k2⟩ := HP5.out; have HQ5 := Lib.hid (below_unbox hb5); clear hb5)
                | (go_at_call 9; refine (sameInts_eq _ _ _ _ (HJS.out.below HQ5.out (Nat.le_refl _)) ((HIS.out.below HB4.out (Nat.le_refl _)).below HQ5.out (Nat.le_refl _))).mono ?_; rintro e1 w6 ⟨rfl, hb6⟩; have HP6 := Lib.hid (PlanAt.on HP5.out hb6); have HQ6 := Lib.hid (HQ5.out.trans (hb6.mono HQ5.out.size)); clear k0 k1 k2; obtain ⟨_, k0, k1, k2⟩ := HP6.out; clear hb6)
                | (go_at_call 10; have hq6 := HP7.out.1; refine (sameLists_eq _ _ _ _ (HJT.out.below HQ7.out (Nat.le_refl _)) ((HIT.out.below HB4.out (Nat.le_refl _)).below HQ7.out (Nat.le_refl _))).mono ?_; rintro e1 w8 ⟨rfl, hb8⟩; have HP8 := Lib.hid (PlanAt.on HP7.out hb8); clear hb8 hq6)
                | (go_at_call 10; refine (sameLists_eq _ _ _ _ (HJP.out.below HQ6.out (Nat.le_refl _)) ((HIP.out.below HB4.out (Nat.le_refl _)).below HQ6.out (Nat.le_refl _))).mono ?_; rintro e1 w7 ⟨rfl, hb7⟩; have HP7 := Lib.hid (PlanAt.on HP6.out hb7); have HQ7 := Lib.hid (HQ6.out.trans (hb7.mono HQ6.out.size)); clear k0 k1 k2; obtain ⟨_, k0, k1, k2⟩ := HP7.out; clear hb7))
              go_ret
              exact ⟨rfl, HP8.out.1⟩
      · have HNE := Lib.hid hne; have HEQ := Lib.hid heq
        have he0 : (e == 0) = false := by simpa using hne
        have hbw : Below w.heap.size w wr := (HB1.out.trans (HB2.out.mono HB1.out.size)).trans (hbr.mono (Nat.le_trans HB1.out.size HB2.out.size))
        have hmk := Make_err v fs x wr (HV.out.below hbw (Nat.le_refl _)) (by rw [← heq]; exact hne)
        rw [← heq] at hmk
        have HMK := Lib.hid hmk; have HBW := Lib.hid hbw
        clear hne heq hbr hmk hbw
        go_wp2_with (first
          | (go_at_call 7; refine HMK.out.mono ?_; rintro e1 w3 ⟨rfl, hb3⟩; rw [errV_ne HNE.out]; have HP := Lib.hid (plan_keeps HBW.out hb3 (.slice none 0 0) (.slice none 0 0) (.slice none 0 0)); clear hb3)
          | (go_at_call 8; refine (bare_any _ e (-1) e _ (ErrV.bare e) (HE.out.below HP.out.1 HE.out.pos)).mono ?_; rintro e1 w4 ⟨rfl, hb4⟩; rw [atB_self]; have HP4 := Lib.hid (HP.out.2 w4 hb4); obtain ⟨_, k0, k1, k2⟩ := HP4.out; clear hb4)
          | (go_at_call 9; refine (sameInts_eq _ _ [] _ (Ints.nil _) (Ints.nil _)).mono ?_; rintro e1 w5 ⟨rfl, hb5⟩; have HP5 := Lib.hid (PlanAt.on HP4.out hb5); clear k0 k1 k2; obtain ⟨_, k0, k1, k2⟩ := HP5.out; clear hb5)
          | (go_at_call 10; have hq6 := HP6.out.1; refine (sameLists_eq _ _ [] _ (Lists.nil _) (Lists.nil _)).mono ?_; rintro e1 w7 ⟨rfl, hb7⟩; have HP7 := Lib.hid (PlanAt.on HP6.out hb7); clear hb7 hq6)
          | (go_at_call 10; refine (sameLists_eq _ _ [] _ (Lists.nil _) (Lists.nil _)).mono ?_; rintro e1 w6 ⟨rfl, hb6⟩; have HP6 := Lib.hid (PlanAt.on HP5.out hb6); clear k0 k1 k2; obtain ⟨_, k0, k1, k2⟩ := HP6.out; clear hb6))
        all_goals
          go_ret
          exact ⟨rfl, HP7.out.1⟩
end Go.Proofs.YtmljdgedndbipaaDoor
