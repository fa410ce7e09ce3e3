/-
  What is proved here: Top (16.1), the document's, given what its 'Sorted' answers.
-/
import Derived.Test.YtnefldamfhockaaDoorTopsW2
namespace Go.Proofs.YtnefldamfhockaaDoor
open Go.RowKit Go.Maps

/-- What the document's 'Sorted' answers. -/
def RefSortsP : Prop := ∀ (b n : Nat) (f : Int → Int) (w : World), MC w b n f → n ≤ 1000 → (∀ x, f x ≤ 1000) → Calls Tryd.prog 9 #[.map (some b)] w (PrsP w f)
theorem size_le {w : World} {b n : Nat} {D : DataW Unit} (h : w.ownsMap Tryd.prog 3 (plainElem Tryd.prog 3) b n D) : Maps.size D ≤ n := by
  obtain ⟨es, clock, _, _, hs, rfl⟩ := h
  simp [Maps.size, length_sorted]
  exact hs
/-- Half way through the loop that makes the map of what is one less. -/
def lessL (f : Int → Int) (left : Lit → Bool) : Int → Int := fun y => if left (kl y) = true then 0 else decI (f y)

set_option maxHeartbeats 4000000 in
set_option maxRecDepth 100000 in
theorem RefTop_any (HS : RefSortsP) (v : Value) (keys : List Int) (cc : Int) (w : World) (h : Ints w v keys) (hwf : WFs keys) (hl : keys.length ≤ 200) :
    Calls Tryd.prog 4 #[v, .int .i64 cc] w (PrsP w (topF keys cc keys.length)) := by
  have hmm := @run_makeMap Tryd.prog
  have HI := Lib.hid h; have HW := Lib.hid hwf; have HSS := Lib.hid HS
  obtain ⟨a, ca, rfl, _, _⟩ := h
  clear hwf HS
  go_enter Tryd.func4, Tryd.ntmps4
  go_wp2
  go_loopg [5, 14] keys.length (fun g m i W => Below w.heap.size w W ∧ ∃ k B : Nat, k + g = keys.length ∧ i = .int .i64 k ∧ m = .map (some B) ∧ w.heap.size ≤ B ∧ MC W B k (topF keys cc k))
  case atStart => exact ⟨(Below.refl _ _).alloc (Nat.le_refl _) _, 0, w.heap.size, by omega, rfl, rfl, Nat.le_refl _, .map [], World.ownsMap_made _ _ _ _, Cnt.empty⟩
  case round =>
    obtain ⟨hb, k, B, hk, rfl, rfl, hB, D, hown, hC⟩ := hrel
    by_cases hlt : k < keys.length
    · obtain ⟨n, rfl⟩ : ∃ n, gk = n + 1 := ⟨gk - 1, by omega⟩
      have hI := HI.out.below hb (Nat.le_refl _)
      obtain ⟨_, _, e1, _, hcl⟩ := hI
      cases e1
      obtain ⟨b1, o1, rfl, hc1'⟩ := hcl (by omega)
      have p1 := hc1' k hlt
      have hwf := HW.out k hlt
      have hkey : keyOf Tryd.prog 3 (.int .i64 (gi keys k)) = some (kl (gi keys k)) := keyOf_int_mk Tryd.underlying3 (WalkArith.wf_i64 (by omega))
      have hat0 := hC.at0 (gi keys k)
      have hbd := topF_bd keys cc k (gi keys k)
      have hlen := hown.len Tryd.underlying23 3
      have hsz : Maps.size D = szC (topF keys cc k) := szC_eq (hown.canon lawK) hC
      rw [hsz] at hlen
      have hsk := size_le hown
      have HAT := Lib.hid hat0; have HC := Lib.hid hC; have HB := Lib.hid hb
      have HSZ := Lib.hid hsz
      clear hcl hc1' hat0 hC hb hsz
      by_cases hm : 0 < topF keys cc k (gi keys k) ∨ (szC (topF keys cc k) : Int) < cc
      · have HST := Lib.hid (topF_more hm)
        by_cases hp : 0 < topF keys cc k (gi keys k)
        · have hd : True := trivial
          clear hd hm
          go_wp2_with (first
            | (at_lookup; refine wpList_lookup_own_int _ rfl _ _ 23 rfl 3 3 .i64 lawK Tryd.underlying23 Tryd.underlying3 (zeroE _) B k _ rfl hown _ _ rfl hkey ?_; intro c hat hwc; have hcE : c = topF keys cc k (gi keys k) := lit_eq (hat.symm.trans HAT.out); have HCE := Lib.hid hcE; have hc0 : 0 ≤ c := (by omega); have hc1 : c ≤ k := (by omega); have hcp : 0 < c := (by omega); clear hat hwc hcE)
            | (at_mapUpdate; refine wpList_mapUpdate_own _ rfl _ _ _ 23 rfl 3 3 lawK Tryd.underlying23 _ B k _ rfl hown (by unfold maxLen; omega) _ _ _ rfl rfl hkey _ [] (plainElem_int Tryd.underlying3 (WalkArith.wf_i64 (by omega))) ?_; intro w1 hown1 hgrow1))
          go_roundg n
          case measure => omega
          case rel =>
            refine ⟨HB.out.grown hgrow1 HB.out.size (fun j hj => by cases hj; exact hB), k + 1, B, by omega, by go_num, rfl, hB, _, hown1, (HC.out.put (hown.tidy lawK).isMap _ (by omega)).congr (fun x => ?_)⟩
            rw [HST.out, HCE.out]
        · have hp0 : topF keys cc k (gi keys k) = 0 := by omega
          have hsm : (szC (topF keys cc k) : Int) < cc := by omega
          have HP0 := Lib.hid hp0
          clear hm hp0 hp
          go_wp2_with (first
            | (at_lookup; refine wpList_lookup_own_int _ rfl _ _ 23 rfl 3 3 .i64 lawK Tryd.underlying23 Tryd.underlying3 (zeroE _) B k _ rfl hown _ _ rfl hkey ?_; intro c hat hwc; have hcE : c = topF keys cc k (gi keys k) := lit_eq (hat.symm.trans HAT.out); have HCE := Lib.hid hcE; have hc0 : 0 ≤ c := (by omega); have hc1 : c ≤ k := (by omega); have hcp : ¬ 0 < c := (by have := HP0.out; omega); clear hat hwc hcE)
            | (at_mapUpdate; refine wpList_mapUpdate_own _ rfl _ _ _ 23 rfl 3 3 lawK Tryd.underlying23 _ B k _ rfl hown (by unfold maxLen; omega) _ _ _ rfl rfl hkey _ [] (plainElem_int Tryd.underlying3 (WalkArith.wf_i64 (by omega))) ?_; intro w1 hown1 hgrow1))
          go_roundg n
          case measure => omega
          case rel =>
            refine ⟨HB.out.grown hgrow1 HB.out.size (fun j hj => by cases hj; exact hB), k + 1, B, by omega, by go_num, rfl, hB, _, hown1, (HC.out.put (hown.tidy lawK).isMap _ (by omega)).congr (fun x => ?_)⟩
            rw [HST.out, HCE.out]
      · have HST := Lib.hid (topF_less hm)
        have hp0 : topF keys cc k (gi keys k) = 0 := by omega
        have hsm : ¬ (szC (topF keys cc k) : Int) < cc := by omega
        have HP0 := Lib.hid hp0
        clear hm hp0
        obtain ⟨w5, rfl⟩ : ∃ w5, w5 = wr := ⟨_, rfl⟩
        have hown5 := hown.alloc (.map #[] 0)
        have hBlt := hown.lt
        go_wp2_with (first
          | (at_lookup; refine wpList_lookup_own_int _ rfl _ _ 23 rfl 3 3 .i64 lawK Tryd.underlying23 Tryd.underlying3 (zeroE _) B k _ rfl hown _ _ rfl hkey ?_; intro c hat hwc; have hcE : c = topF keys cc k (gi keys k) := lit_eq (hat.symm.trans HAT.out); have hcp : ¬ 0 < c := (by have := HP0.out; omega); clear hat hwc hcE)
          | (at_range; refine wpList_range_own _ rfl _ 23 rfl 3 3 lawK Tryd.underlying23 _ B k _ rfl hown5 ?_; intro w0 hrg0 hg0 hs0; clear hs0))
        have hlo0 : Cnt (.map [] : DataW Unit) (lessL (topF keys cc k) (Maps.has D)) := Cnt.empty.congr (fun y => by
          unfold lessL
          have h1 := HC.out.nn y
          rw [HC.out.has y]
          by_cases hy : 0 < topF keys cc k y
          · simp [hy]
          · simp [hy, decI])
        have hom0 : w0.ownsMap Tryd.prog 3 (plainElem (H := Unit) Tryd.prog 3) w5.heap.size 0 (.map []) := (World.ownsMap_made w5 _ _ _).kept hg0 (by simp)
        have hbg0 := (HB.out.alloc HB.out.size (.map #[] 0)).grown hg0 (by rw [size_alloc]; have := HB.out.size; omega) (fun j hj => by cases hj)
        have hr0 : w5.heap.size + 1 < w0.heap.size := by have := hrg0.lt; rw [size_alloc] at this; exact this
        rw [size_alloc] at hrg0
        have hwr := HB.out.size
        have HLO0 := Lib.hid hlo0; have HG0 := Lib.hid hbg0
        clear hlen hlo0 hbg0 hg0 hown hown5
        go_loopg [9] (Maps.size D) (fun g _ W => Below w.heap.size w W ∧ w5.heap.size + 1 < W.heap.size ∧ ∃ (left : Lit → Bool) (q : Nat) (Do : DataW Unit), W.ranges Tryd.prog 3 (plainElem Tryd.prog 3) B (w5.heap.size + 1) k D left g ∧
          q + g ≤ Maps.size D ∧ W.ownsMap Tryd.prog 3 (plainElem Tryd.prog 3) w5.heap.size q Do ∧ Cnt Do (lessL (topF keys cc k) left))
        case atStart => exact ⟨HG0.out, hr0, _, 0, _, hrg0, by omega, hom0, HLO0.out⟩
        case round =>
          clear hrg0 hom0
          obtain ⟨hb6, hr6, left, q, Do, hrg, hqg, hom, hC6⟩ := hrel
          have HB6 := Lib.hid hb6; have HC6 := Lib.hid hC6
          clear hb6 hC6
          go_wp2_with (at_next; refine wpList_next_ranges_ii _ rfl _ rfl 3 3 .i64 .i64 lawK Tryd.underlying3 Tryd.underlying3 B (w5.heap.size + 1) k _ _ _ rfl hrg ?_ ?_)
          · intro _ hl0
            have HL0 := Lib.hid hl0
            clear hl0
            go_wp2
            go_roundg n
            case measure => omega
            case rel =>
              refine ⟨HB6.out, k + 1, w5.heap.size, by omega, by go_num, rfl, hwr, Do, hom.mono (by omega), HC6.out.congr (fun y => ?_)⟩
              rw [HST.out, lessL, HL0.out (kl y)]; rfl
          · intro x c w1 cnt1 hwx hwc hlx hat hrg1 hlt1 hg1 hs1 hen
            change left (kl x) = true at hlx
            have hkx : keyOf Tryd.prog 3 (.int .i64 x) = some (kl x) := keyOf_int_mk Tryd.underlying3 hwx
            have hhx : Maps.has D (kl x) = true := Maps.has_true_of_atKey hat
            have hpx : 0 < topF keys cc k x := by
              have := HC.out.has x
              rw [hhx] at this
              simpa using this.symm
            have hcx : c = topF keys cc k x := lit_eq ((hat _).symm.trans (HC.out.val x hpx (.lit (.int .i64 0))))
            have hbx := topF_bd keys cc k x
            have hc0 : 0 < c := by omega
            have hck : c ≤ k := by omega
            have hmm2 : Maps.IsMap Do := (hom.tidy lawK).isMap
            have hom1 := hom.kept hg1 (by simp)
            have HCX := Lib.hid hcx; have HG1 := Lib.hid hg1; have HLX := Lib.hid hlx
            clear hcx hg1 hs1 hlx hpx hbx hwc hrg hhx hat hom
            by_cases hc2 : 1 < c
            · go_wp2_with (at_mapUpdate; refine wpList_mapUpdate_own _ rfl _ _ _ 23 rfl 3 3 lawK Tryd.underlying23 _ w5.heap.size q _ rfl hom1 (by unfold maxLen; omega) _ _ _ rfl rfl hkx _ [] (plainElem_int Tryd.underlying3 (WalkArith.wf_i64 (by omega))) ?_; intro w2 hom2 hgrow2)
              go_roundg cnt1
              case measure => omega
              case rel =>
                refine ⟨(HB6.out.grown HG1.out HB6.out.size (fun j hj => by cases hj; omega)).grown hgrow2 (by have := HB6.out.size; have := HG1.out.size; omega) (fun j hj => by cases hj; omega), by have := HG1.out.size; have := hgrow2.size; omega, _, q + 1, _, hrg1.kept hgrow2 (by simp; omega) (by simp), by omega, hom2, (HC6.out.put hmm2 x (v := c - 1) (by omega)).congr (fun y => ?_)⟩
                have h4 := HCX.out
                by_cases e : y = x
                · subst e
                  rw [updI_at]; simp [lessL, sk, decI]; omega
                · rw [updI_off e]; simp [lessL, sk, e]
            · go_wp2
              go_roundg cnt1
              case measure => omega
              case rel =>
                refine ⟨HB6.out.grown HG1.out HB6.out.size (fun j hj => by cases hj; omega), by have := HG1.out.size; omega, _, q, _, hrg1, by omega, hom1, HC6.out.congr (fun y => ?_)⟩
                have h4 := HCX.out
                by_cases e : y = x
                · subst e
                  simp [lessL, sk, HLX.out, decI]; omega
                · simp [lessL, sk, e]
    · have hkE : k = keys.length := by omega
      subst hkE
      have hbk := topF_bd keys cc keys.length
      have hs := HSS.out B keys.length (topF keys cc keys.length) wr ⟨D, hown, hC⟩ (by omega) (fun x => by have := (hbk x).2; omega)
      have HSX := Lib.hid hs; have HB := Lib.hid hb
      clear hbk hs hown hC hb
      go_wp2_with (go_at_call 9; refine HSX.out.mono ?_; rintro e w2 ⟨vL, L, rfl, hso, hpr, hb2⟩)
      go_ret
      exact ⟨_, L, rfl, hso, hpr, HB.out.trans (hb2.mono HB.out.size)⟩
end Go.Proofs.YtnefldamfhockaaDoor
