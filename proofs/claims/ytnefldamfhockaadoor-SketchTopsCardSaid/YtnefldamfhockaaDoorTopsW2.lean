/-
  What is proved here: Top (16.1), the program's: few counters, given what 'sorted' answers.
-/
import Derived.Test.YtnefldamfhockaaDoorTopsW1
namespace Go.Proofs.YtnefldamfhockaaDoor
open Go.RowKit Go.Maps

def TopP (w : World) (f : Int → Int) (e : Ending) (w' : World) : Prop :=
  ∃ v L, e = .returned (.tuple #[v, .nilIface]) ∧ SortedOf f (fun _ => true) L ∧ Prs w' v L ∧ Below w.heap.size w w'
def TopErr (w : World) (e : Ending) (w' : World) : Prop := e = .returned (.tuple #[.slice none 0 0, .iface 24 (.int .i64 2)]) ∧ w = w'

theorem Top_err (v : Value) (c : Int) (w : World) (hc : c < 1 ∨ 100 < c) : Calls Tryd.prog 5 #[v, .int .i64 c] w (TopErr w) := by
  rcases hc with h | h
  · go_enter Tryd.func5, Tryd.ntmps5
    go_wp2
    go_ret2
    exact ⟨rfl, rfl⟩
  · have h' : ¬ c < 1 := by omega
    go_enter Tryd.func5, Tryd.ntmps5
    go_wp2
    go_ret2
    exact ⟨rfl, rfl⟩

/-- Half way through the loop that takes one off all counters. -/
def decL (f : Int → Int) (left : Lit → Bool) : Int → Int := fun y => if left (kl y) = true then f y else decI (f y)

set_option maxHeartbeats 4000000 in
set_option maxRecDepth 100000 in
theorem Top_any (HS : SortsP) (v : Value) (keys : List Int) (cc : Int) (w : World) (h : Ints w v keys) (hwf : WFs keys) (hl : keys.length ≤ 200) (hq1 : 1 ≤ cc) (hq2 : cc ≤ 100) :
    Calls Tryd.prog 5 #[v, .int .i64 cc] w (TopP w (topF keys cc keys.length)) := by
  have hmm := @run_makeMap Tryd.prog
  have HI := Lib.hid h; have HW := Lib.hid hwf; have HSS := Lib.hid HS
  obtain ⟨a, ca, rfl, _, _⟩ := h
  clear hwf HS
  go_enter Tryd.func5, Tryd.ntmps5
  go_wp2
  go_loopg [22] keys.length (fun g i W => Below w.heap.size w W ∧ ∃ k : Nat, k + g = keys.length ∧ i = .int .i64 k ∧ MC W w.heap.size k (topF keys cc k))
  case atStart => exact ⟨(Below.refl _ _).alloc (Nat.le_refl _) _, 0, by omega, rfl, .map [], World.ownsMap_made _ _ _ _, Cnt.empty⟩
  case round =>
    obtain ⟨hb, k, hk, rfl, D, hown, hC⟩ := hrel
    by_cases hlt : k < keys.length
    · obtain ⟨n, rfl⟩ : ∃ n, gk = n + 1 := ⟨gk - 1, by omega⟩
      have hI := HI.out.below hb (Nat.le_refl _)
      obtain ⟨_, _, e1, _, hcl⟩ := hI
      cases e1
      obtain ⟨b1, o1, rfl, hc1'⟩ := hcl (by omega)
      have p1 := hc1' k hlt
      have hwf := HW.out k hlt
      have hkey : keyOf Tryd.prog 3 (.int .i64 (gi keys k)) = some (kl (gi keys k)) := keyOf_int_mk Tryd.underlying3 (WalkArith.wf_i64 (by omega))
      have hat0 := hC.at0 (gi keys k)
      have hbd := topF_bd keys cc k (gi keys k)
      have hlen := hown.len Tryd.underlying23 3
      have hsz : Maps.size D = szC (topF keys cc k) := szC_eq (hown.canon lawK) hC
      rw [hsz] at hlen
      have hhas := hC.has (gi keys k)
      have HAT := Lib.hid hat0; have HC := Lib.hid hC; have HB := Lib.hid hb
      clear hcl hc1' hat0 hC hb hsz
      by_cases hm : 0 < topF keys cc k (gi keys k) ∨ (szC (topF keys cc k) : Int) < cc
      · have HST := Lib.hid (topF_more hm)
        by_cases hp : 0 < topF keys cc k (gi keys k)
        · have hd : decide (0 < topF keys cc k (gi keys k)) = true := by simpa using hp
          rw [hd] at hhas
          clear hd hm
          go_wp2_with (first
            | (at_lookup; refine wpList_lookup_own_ok_int _ rfl _ _ 23 rfl 3 3 .i64 lawK Tryd.underlying23 Tryd.underlying3 (zeroE _) w.heap.size k _ rfl hown _ _ rfl hkey ?_; intro c0 hat hwc; clear hat hwc)
            | (at_lookup; refine wpList_lookup_own_int _ rfl _ _ 23 rfl 3 3 .i64 lawK Tryd.underlying23 Tryd.underlying3 (zeroE _) w.heap.size k _ rfl hown _ _ rfl hkey ?_; intro c hat hwc; have hcE : c = topF keys cc k (gi keys k) := lit_eq (hat.symm.trans HAT.out); have HCE := Lib.hid hcE; have hc0 : 0 ≤ c := (by omega); have hc1 : c ≤ k := (by omega); clear hat hwc hcE)
            | (at_mapUpdate; refine wpList_mapUpdate_own _ rfl _ _ _ 23 rfl 3 3 lawK Tryd.underlying23 _ w.heap.size k _ rfl hown (by unfold maxLen; omega) _ _ _ rfl rfl hkey _ [] (plainElem_int Tryd.underlying3 (WalkArith.wf_i64 (by omega))) ?_; intro w1 hown1 hgrow1))
          go_roundg n
          case measure => omega
          case rel =>
            refine ⟨HB.out.grown hgrow1 HB.out.size (fun j hj => by cases hj; exact Nat.le_refl _), k + 1, by omega, by go_num, _, hown1, (HC.out.put (hown.tidy lawK).isMap _ (by omega)).congr (fun x => ?_)⟩
            rw [HST.out, HCE.out]
        · have hd : decide (0 < topF keys cc k (gi keys k)) = false := by simpa using hp
          rw [hd] at hhas
          have hsm : (szC (topF keys cc k) : Int) < cc := by omega
          clear hd hm
          go_wp2_with (first
            | (at_lookup; refine wpList_lookup_own_ok_int _ rfl _ _ 23 rfl 3 3 .i64 lawK Tryd.underlying23 Tryd.underlying3 (zeroE _) w.heap.size k _ rfl hown _ _ rfl hkey ?_; intro c0 hat hwc; clear hat hwc)
            | (at_lookup; refine wpList_lookup_own_int _ rfl _ _ 23 rfl 3 3 .i64 lawK Tryd.underlying23 Tryd.underlying3 (zeroE _) w.heap.size k _ rfl hown _ _ rfl hkey ?_; intro c hat hwc; have hcE : c = topF keys cc k (gi keys k) := lit_eq (hat.symm.trans HAT.out); have HCE := Lib.hid hcE; have hc0 : 0 ≤ c := (by omega); have hc1 : c ≤ k := (by omega); clear hat hwc hcE)
            | (at_mapUpdate; refine wpList_mapUpdate_own _ rfl _ _ _ 23 rfl 3 3 lawK Tryd.underlying23 _ w.heap.size k _ rfl hown (by unfold maxLen; omega) _ _ _ rfl rfl hkey _ [] (plainElem_int Tryd.underlying3 (WalkArith.wf_i64 (by omega))) ?_; intro w1 hown1 hgrow1))
          go_roundg n
          case measure => omega
          case rel =>
            refine ⟨HB.out.grown hgrow1 HB.out.size (fun j hj => by cases hj; exact Nat.le_refl _), k + 1, by omega, by go_num, _, hown1, (HC.out.put (hown.tidy lawK).isMap _ (by omega)).congr (fun x => ?_)⟩
            rw [HST.out, HCE.out]
      · have HST := Lib.hid (topF_less hm)
        have hd : decide (0 < topF keys cc k (gi keys k)) = false := by simp; omega
        rw [hd] at hhas
        have hsm : ¬ (szC (topF keys cc k) : Int) < cc := by omega
        clear hd hm
        go_wp2_with (first
          | (at_lookup; refine wpList_lookup_own_ok_int _ rfl _ _ 23 rfl 3 3 .i64 lawK Tryd.underlying23 Tryd.underlying3 (zeroE _) w.heap.size k _ rfl hown _ _ rfl hkey ?_; intro c0 hat hwc; clear hat hwc)
          | (at_range; refine wpList_range_own _ rfl _ 23 rfl 3 3 lawK Tryd.underlying23 _ w.heap.size k _ rfl hown ?_; intro w0 hrg0 hg0 hs0; clear hs0))
        have hD0 : Cnt D (decL (topF keys cc k) (Maps.has D)) := HC.out.congr (fun y => by
          unfold decL
          have h1 := HC.out.nn y
          rw [HC.out.has y]
          by_cases hy : 0 < topF keys cc k y
          · simp [hy]
          · simp [hy, decI]; omega)
        have HD0 := Lib.hid hD0
        have hbg0 := HB.out.grown hg0 HB.out.size (fun j hj => by cases hj)
        have HG0 := Lib.hid hbg0
        have hrr : wr.heap.size < w0.heap.size := hrg0.lt
        have hwr := HB.out.size
        clear hD0 hbg0 hlen hhas
        obtain ⟨w5, rfl⟩ : ∃ w5, w5 = wr := ⟨_, rfl⟩
        go_loopg [11] (Maps.size D) (fun g _ W => Below w.heap.size w W ∧ w5.heap.size < W.heap.size ∧ ∃ (left : Lit → Bool) (D' : DataW Unit), W.ranges Tryd.prog 3 (plainElem Tryd.prog 3) w.heap.size w5.heap.size k D' left g ∧ Cnt D' (decL (topF keys cc k) left))
        case atStart => exact ⟨HG0.out, hrr, _, _, hrg0, HD0.out⟩
        case round =>
          obtain ⟨hb6, hr6, left, D', hrg, hC6⟩ := hrel
          have HB6 := Lib.hid hb6; have HC6 := Lib.hid hC6
          clear hb6 hC6 hrg0 hg0 hown
          go_wp2_with (at_next; refine wpList_next_ranges_ii _ rfl _ rfl 3 3 .i64 .i64 lawK Tryd.underlying3 Tryd.underlying3 w.heap.size w5.heap.size k _ _ _ rfl hrg ?_ ?_)
          · intro _ hl0
            have HL0 := Lib.hid hl0
            clear hl0
            go_wp2
            go_roundg n
            case measure => omega
            case rel =>
              refine ⟨HB6.out, k + 1, by omega, by go_num, D', hrg.owns.mono (by omega), HC6.out.congr (fun y => ?_)⟩
              rw [HST.out, decL, HL0.out (kl y)]; rfl
          · intro x c w1 cnt1 hwx hwc hlx hat hrg1 hlt1 hg1 hs1 hen
            have hkx : keyOf Tryd.prog 3 (.int .i64 x) = some (kl x) := keyOf_int_mk Tryd.underlying3 hwx
            change left (kl x) = true at hlx
            have hhx : Maps.has D' (kl x) = true := Maps.has_true_of_atKey hat
            have hfx : decL (topF keys cc k) left x = topF keys cc k x := by rw [decL, if_pos hlx]
            have hpx : 0 < topF keys cc k x := by
              have := HC6.out.has x
              rw [hhx, hfx] at this
              simpa using this.symm
            have hcx : c = topF keys cc k x := by
              have := HC6.out.val x (by rw [hfx]; exact hpx) (.lit (.int .i64 0))
              rw [hfx] at this
              exact lit_eq ((hat _).symm.trans this)
            have hbx := topF_bd keys cc k x
            have hc0 : 0 < c := by omega
            have hck : c ≤ k := by omega
            have hmm2 : Maps.IsMap D' := (hrg1.owns.tidy lawK).isMap
            have hput : (D'.put (kl x) (.lit (.int .i64 (c - 1)))).atKey (kl x) (.lit (.int .i64 0)) = .lit (.int .i64 (c - 1)) := Maps.atKey_put_same hmm2 (kl_key _) _ _
            have HPUT := Lib.hid hput; have HCX := Lib.hid hcx; have HG1 := Lib.hid hg1; have HLX := Lib.hid hlx
            clear hput hcx hg1 hs1 hlx hfx hpx hbx hwc hrg
            go_wp2_with (first
              | (at_lookup; refine wpList_lookup_own_int _ rfl _ _ 23 rfl 3 3 .i64 lawK Tryd.underlying23 Tryd.underlying3 (zeroE _) w.heap.size k _ rfl hrg2.owns _ _ rfl hkx ?_; intro c3 hat2 hwc2; have hcE : c3 = c - 1 := lit_eq (hat2.symm.trans HPUT.out); have HC3 := Lib.hid hcE; have h30 : 0 ≤ c3 := (by omega); have h31 : c3 ≤ k := (by omega); clear hat2 hwc2 hcE)
              | (at_lookup; refine wpList_lookup_own_int _ rfl _ _ 23 rfl 3 3 .i64 lawK Tryd.underlying23 Tryd.underlying3 (zeroE _) w.heap.size k _ rfl hrg1.owns _ _ rfl hkx ?_; intro c2 hat2 hwc2; have hcE : c2 = c := lit_eq (hat2.symm.trans (hat _)); have HC2 := Lib.hid hcE; have h20 : 0 ≤ c2 := (by omega); have h21 : c2 ≤ k := (by omega); clear hat2 hwc2 hcE)
              | (at_mapUpdate; refine wpList_mapUpdate_ranges rfl _ _ _ 23 rfl 3 lawK Tryd.underlying23 rfl hrg1 (by unfold maxLen; omega) _ _ (kl x) rfl rfl hkx (.lit (.int .i64 (c - 1))) [] (by rw [HC2.out]; exact plainElem_int Tryd.underlying3 (WalkArith.wf_i64 (by omega))) hhx ?_; intro w2 hrg2 hturn2)
              | (at_delete; refine wpList_delete_ranges _ rfl _ _ 23 3 rfl 3 lawK Tryd.underlying23 _ w.heap.size w5.heap.size k _ _ _ rfl hrg2 _ _ rfl hkx ?_; intro w3 cnt3 hrg3 hle3 hturn3))
            · have hz : c3 = 0 := by simpa using (by assumption : (c3 == 0) = true)
              go_roundg cnt3
              case measure => omega
              case rel =>
                refine ⟨((HB6.out.grown HG1.out HB6.out.size (fun j hj => by cases hj; omega)).grown hturn2.grown (by have := HB6.out.size; have := HG1.out.size; omega) (fun j hj => by cases hj; exact Nat.le_refl _)).grown hturn3.grown (by have := HB6.out.size; have := HG1.out.size; have := hturn2.grown.size; omega) (fun j hj => by cases hj; exact Nat.le_refl _), by have := HG1.out.size; have := hturn2.grown.size; have := hturn3.grown.size; omega, _, _, hrg3, (HC6.out.putDel x (c - 1)).congr (fun y => ?_)⟩
                have h3 := HC3.out
                have h4 := HCX.out
                by_cases e : y = x
                · subst e
                  rw [updI_at]; simp [decL, sk, sk', decI]; omega
                · rw [updI_off e]; simp [decL, sk, sk', e]
            · have hz : c3 ≠ 0 := by simpa using (by assumption : (c3 == 0) = false)
              have h3 := HC3.out
              go_roundg cnt1
              case measure => omega
              case rel =>
                refine ⟨(HB6.out.grown HG1.out HB6.out.size (fun j hj => by cases hj; omega)).grown hturn2.grown (by have := HB6.out.size; have := HG1.out.size; omega) (fun j hj => by cases hj; exact Nat.le_refl _), by have := HG1.out.size; have := hturn2.grown.size; omega, _, _, hrg2, (HC6.out.put hmm2 x (v := c - 1) (by omega)).congr (fun y => ?_)⟩
                have h4 := HCX.out
                by_cases e : y = x
                · subst e
                  rw [updI_at]; simp [decL, sk, decI]; omega
                · rw [updI_off e]; simp [decL, sk, e]
    · have hkE : k = keys.length := by omega
      subst hkE
      have hbk := topF_bd keys cc keys.length
      have hs := HSS.out w.heap.size keys.length (topF keys cc keys.length) wr ⟨D, hown, hC⟩ (by omega) (fun x => by have := (hbk x).2; omega)
      have HSX := Lib.hid hs; have HB := Lib.hid hb
      clear hbk hs hown hC hb
      go_wp2_with (go_at_call 10; refine HSX.out.mono ?_; rintro e w2 ⟨vL, L, rfl, hso, hpr, hb2⟩)
      go_ret2
      exact ⟨_, L, rfl, hso, hpr, HB.out.trans (hb2.mono HB.out.size)⟩
end Go.Proofs.YtnefldamfhockaaDoor
