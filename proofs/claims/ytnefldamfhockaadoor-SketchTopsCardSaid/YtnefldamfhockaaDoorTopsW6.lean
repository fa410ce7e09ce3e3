/-
  What is proved here: the law's own walk (SketchTops): whatever the keys and counters are, it answers true and leaves memory that existed as it was.
-/
import Derived.Test.YtnefldamfhockaaDoorTopsW5
import Derived.Test.YtnefldamfhockaaDoorErr4
namespace Go.Proofs.YtnefldamfhockaaDoor
open Go.RowKit Go.Maps

def TrueP (w : World) (e : Ending) (w' : World) : Prop := e = .returned (.bool true) ∧ Below w.heap.size w w'
theorem atB_self (e : Int) : atB e (-1) e (-1) = true := by simp [atB]
theorem bstep {w w1 w2 : World} (h : Below w.heap.size w w1) (h2 : Below w1.heap.size w1 w2) : Below w.heap.size w w2 := h.trans (h2.mono h.size)
theorem MC.below {w w' : World} {b n : Nat} {f : Int → Int} {B : Nat} (h : MC w b n f) (hb : Below B w w') (hB : w.heap.size ≤ B) : MC w' b n f := by
  obtain ⟨D, ho, hC⟩ := h
  exact ⟨D, ho.kept (row := none) ⟨hb.os, hb.tape, hb.output, hb.size, fun k hk _ => hb.block k (by omega)⟩ (by simp), hC⟩

set_option maxHeartbeats 2000000 in
set_option maxRecDepth 100000 in
theorem law_any (v : Value) (keys : List Int) (cc : Int) (w : World) (h : Ints w v keys) (hwf : WFs keys) (hE : EType w) :
    Calls Tryd.prog 3 #[v, .int .i64 cc] w (TrueP w) := by
  have hmm := @run_makeMap Tryd.prog
  have HI := Lib.hid h; have HW := Lib.hid hwf; have HE := Lib.hid hE
  obtain ⟨a, ca, rfl, hlm, _⟩ := h
  clear hwf hE
  by_cases hl : 200 < keys.length
  · go_enter Tryd.func3, Tryd.ntmps3
    go_wp2
    go_ret
    exact ⟨rfl, Below.refl _ _⟩
  · go_enter Tryd.func3, Tryd.ntmps3
    go_wp2
    go_loopg [6] keys.length (fun g i W => Below w.heap.size w W ∧ ∃ k : Nat, k + g = keys.length ∧ i = .int .i64 k ∧ MC W w.heap.size k (cntF keys k))
    case atStart => exact ⟨(Below.refl _ _).alloc (Nat.le_refl _) _, 0, by omega, rfl, .map [], World.ownsMap_made _ _ _ _, Cnt.empty⟩
    case round =>
      obtain ⟨hb, k, hk, rfl, D, hown, hC⟩ := hrel
      by_cases hlt : k < keys.length
      · obtain ⟨n, rfl⟩ : ∃ n, gk = n + 1 := ⟨gk - 1, by omega⟩
        have hI := HI.out.below hb (Nat.le_refl _)
        obtain ⟨_, _, e1, _, hc⟩ := hI
        cases e1
        obtain ⟨b1, o1, rfl, hc1⟩ := hc (by omega)
        have p1 := hc1 k hlt
        have hwf := HW.out k hlt
        have hkey : keyOf Tryd.prog 3 (.int .i64 (gi keys k)) = some (kl (gi keys k)) := keyOf_int_mk Tryd.underlying3 (WalkArith.wf_i64 (by omega))
        have hat0 := hC.at0 (gi keys k)
        have hbd := cntF_bd keys k (gi keys k)
        have HAT := Lib.hid hat0; have HC := Lib.hid hC; have HB := Lib.hid hb
        clear hc hc1 hat0 hC hb
        go_wp2_with (first
          | (at_lookup; refine wpList_lookup_own_int _ rfl _ _ 23 rfl 3 3 .i64 lawK Tryd.underlying23 Tryd.underlying3 (zeroE _) w.heap.size k _ rfl hown _ _ rfl hkey ?_; intro c hat hwc; have hcE : c = cntF keys k (gi keys k) := lit_eq (hat.symm.trans HAT.out); have HCE := Lib.hid hcE; have hc0 : 0 ≤ c := (by omega); have hc1 : c ≤ k := (by omega); clear hat hwc hcE)
          | (at_mapUpdate; refine wpList_mapUpdate_own _ rfl _ _ _ 23 rfl 3 3 lawK Tryd.underlying23 _ w.heap.size k _ rfl hown (by unfold maxLen; omega) _ _ _ rfl rfl hkey _ [] (plainElem_int Tryd.underlying3 (WalkArith.wf_i64 (by omega))) ?_; intro w1 hown1 hgrow1))
        go_roundg n
        case measure => omega
        case rel =>
          refine ⟨HB.out.grown hgrow1 HB.out.size (fun j hj => by cases hj; exact Nat.le_refl _), k + 1, by omega, by go_num, _, hown1, (HC.out.put (hown.tidy lawK).isMap _ (by omega)).congr (fun x => ?_)⟩
          rw [HCE.out]; rfl
      · have hkE : k = keys.length := by omega
        subst hkE
        have hbk := cntF_bd keys keys.length
        have hmc : MC wr w.heap.size keys.length (cntF keys keys.length) := ⟨D, hown, hC⟩
        have HMC := Lib.hid hmc; have HB := Lib.hid hb; have HBK := Lib.hid hbk
        have hl2 : keys.length ≤ 200 := by omega
        clear hbk hown hC hb hmc hmm
        by_cases hcc : cc < 1 ∨ 100 < cc
        · have HTE := Lib.hid (Top_err (.slice a keys.length ca) cc wr hcc)
          have hw : cc < 1 ∨ (¬ cc < 1 ∧ 100 < cc) := by omega
          clear hcc
          rcases hw with h1 | ⟨h1, h2⟩
          all_goals
            go_wp2_with (first
              | (go_at_call 5; refine HTE.out.mono ?_; rintro e1 w1 ⟨rfl, rfl⟩)
              | (go_at_call 6; refine (bare_any _ 2 (-1) 2 _ (ErrV.bare 2) (HE.out.below HB.out HE.out.pos)).mono ?_; rintro e1 w2 ⟨rfl, hb2⟩; rw [atB_self]; have HB2 := Lib.hid hb2; have HBB := Lib.hid (HB.out.trans (hb2.mono HB.out.size)); clear hb2)
              | (go_at_call 7; have hq := HB4.out.size; refine (samePairs_eq _ _ _ _ (HP4.out.below HB5.out (Nat.le_refl _)) HP5.out).mono ?_; rintro e1 w6 ⟨rfl, hb6⟩; have HB6 := Lib.hid hb6; clear hb6 hq)
              | (go_at_call 7; refine (samePairs_eq _ _ [] _ (Prs.nil _) (Prs.nil _)).mono ?_; rintro e1 w3 ⟨rfl, hb3⟩; have HB3 := Lib.hid hb3; clear hb3)
              | (go_at_call 8; refine (Exact_any sorted_any _ keys _ (((HI.out.below HB.out (Nat.le_refl _)).below HB2.out (Nat.le_refl _)).below HB3.out (Nat.le_refl _)) HW.out hl2).mono ?_; rintro e1 w4 ⟨vL, L, rfl, hso, hpr, hb4⟩; have HS4 := Lib.hid hso; have HP4 := Lib.hid hpr; have HB4 := Lib.hid hb4; obtain ⟨aL, cL, rfl, _, _⟩ := hpr; clear hso hb4)
              | (go_at_call 9; refine (Sorted_any _ keys.length _ _ (((HMC.out.below HB2.out (Nat.le_refl _)).below HB3.out (Nat.le_refl _)).below HB4.out (Nat.le_refl _)) (by omega) (fun x => by have := (HBK.out x).2; omega)).mono ?_; rintro e1 w5 ⟨vM, M, rfl, hso, hpr, hb5⟩; have hML : M = L := hso.ext HS4.out; subst hML; have HP5 := Lib.hid hpr; have HB5 := Lib.hid hb5; obtain ⟨aM, cM, rfl, _, _⟩ := hpr; clear hso hb5))
            go_ret
            exact ⟨rfl, bstep (bstep (bstep (bstep HBB.out HB3.out) HB4.out) HB5.out) HB6.out⟩
        · have h1 : ¬ cc < 1 := by omega
          have h2 : ¬ 100 < cc := by omega
          clear hcc
          go_wp2_with (first
            | (go_at_call 4; refine (RefTop_any Sorted_any _ keys cc _ (HI.out.below HB.out (Nat.le_refl _)) HW.out hl2).mono ?_; rintro e1 w0 ⟨vR, R, rfl, hso, hpr, hb0⟩; have HSR := Lib.hid hso; have HPR := Lib.hid hpr; have HB0 := Lib.hid hb0; obtain ⟨aR, cR, rfl, _, _⟩ := hpr; clear hso hb0)
            | (go_at_call 5; refine (Top_any sorted_any _ keys cc _ ((HI.out.below HB.out (Nat.le_refl _)).below HB0.out (Nat.le_refl _)) HW.out hl2 (by omega) (by omega)).mono ?_; rintro e1 w1 ⟨vT, T, rfl, hso, hpr, hb1⟩; have hTR : T = R := hso.ext HSR.out; subst hTR; have HPT := Lib.hid hpr; have HB1 := Lib.hid hb1; have HBA := Lib.hid (bstep (bstep HB.out HB0.out) hb1); obtain ⟨aT, cT, rfl, _, _⟩ := hpr; clear hso hb1)
            | (go_at_call 6; refine (bare_any _ 0 (-1) 0 _ ErrV.nil (HE.out.below HBA.out HE.out.pos)).mono ?_; rintro e1 w2 ⟨rfl, hb2⟩; rw [atB_self]; have HB2 := Lib.hid hb2; have HBB := Lib.hid (bstep HBA.out hb2); clear hb2)
            | (go_at_call 7; have hq := HB4.out.size; refine (samePairs_eq _ _ _ _ (HP4.out.below HB5.out (Nat.le_refl _)) HP5.out).mono ?_; rintro e1 w6 ⟨rfl, hb6⟩; have HB6 := Lib.hid hb6; clear hb6 hq)
            | (go_at_call 7; refine (samePairs_eq _ _ _ _ (HPT.out.below HB2.out (Nat.le_refl _)) ((HPR.out.below HB1.out (Nat.le_refl _)).below HB2.out (Nat.le_refl _))).mono ?_; rintro e1 w3 ⟨rfl, hb3⟩; have HB3 := Lib.hid hb3; clear hb3)
            | (go_at_call 8; refine (Exact_any sorted_any _ keys _ (((((HI.out.below HB.out (Nat.le_refl _)).below HB0.out (Nat.le_refl _)).below HB1.out (Nat.le_refl _)).below HB2.out (Nat.le_refl _)).below HB3.out (Nat.le_refl _)) HW.out hl2).mono ?_; rintro e1 w4 ⟨vL, L, rfl, hso, hpr, hb4⟩; have HS4 := Lib.hid hso; have HP4 := Lib.hid hpr; have HB4 := Lib.hid hb4; obtain ⟨aL, cL, rfl, _, _⟩ := hpr; clear hso hb4)
            | (go_at_call 9; refine (Sorted_any _ keys.length _ _ (((((HMC.out.below HB0.out (Nat.le_refl _)).below HB1.out (Nat.le_refl _)).below HB2.out (Nat.le_refl _)).below HB3.out (Nat.le_refl _)).below HB4.out (Nat.le_refl _)) (by omega) (fun x => by have := (HBK.out x).2; omega)).mono ?_; rintro e1 w5 ⟨vM, M, rfl, hso, hpr, hb5⟩; have hML : M = L := hso.ext HS4.out; subst hML; have HP5 := Lib.hid hpr; have HB5 := Lib.hid hb5; obtain ⟨aM, cM, rfl, _, _⟩ := hpr; clear hso hb5))
          go_ret
          exact ⟨rfl, bstep (bstep (bstep (bstep HBB.out HB3.out) HB4.out) HB5.out) HB6.out⟩
end Go.Proofs.YtnefldamfhockaaDoor
