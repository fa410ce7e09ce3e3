/-
  What is proved here: Make (10.2), as the program does it: where it refuses.
-/
import Derived.Test.YtmljdgedndbipaaDoorScedW2
namespace Go.Proofs.YtmljdgedndbipaaDoor
open Go.RowKit

def MakeErr (w : World) (n : Int) (e : Ending) (w' : World) : Prop :=
  e = .returned (.tuple #[.agg #[.slice none 0 0, .slice none 0 0, .slice none 0 0], errV n]) ∧ Below w.heap.size w w'

set_option maxHeartbeats 4000000 in
set_option maxRecDepth 100000 in
theorem Make_err (v : Value) (fs : Fl) (x : Int) (w : World) (h : Flows w v fs) (hn : makeChk fs x ≠ 0) :
    Calls Tryd.prog 7 #[v, .int .i64 x] w (MakeErr w (makeChk fs x)) := by
  obtain ⟨W0, hW0⟩ : ∃ W0, W0 = w.alloc (.cells #[.slice none 0 0, .slice none 0 0, .slice none 0 0] 35) := ⟨_, rfl⟩
  have hb0 : Below w.heap.size w W0 := by rw [hW0]; exact (Below.refl _ _).alloc (Nat.le_refl _) _
  have hchk := scedCheck_any v fs W0 (h.below hb0 (Nat.le_refl _))
  have hR0 : W0.heap[w.heap.size]? = some (.cells #[.slice none 0 0, .slice none 0 0, .slice none 0 0] 35 (0, 0)) := by rw [hW0]; exact heap_alloc_new _ _
  have hlt0 : w.heap.size < W0.heap.size := by rw [hW0, size_alloc]; omega
  have hF := h.below hb0 (Nat.le_refl _)
  by_cases hs : scedChk fs = 0
  · rw [makeChk_ok hs] at hn ⊢
    rw [errV_zero hs, hW0] at hchk
    have HC := Lib.hid hchk; clear hchk
    obtain ⟨hl1, hl2, hok⟩ := scedChk_zero hs
    have hblk : ∀ w1, Below W0.heap.size W0 w1 → w1.heap[w.heap.size]? = some (.cells #[.slice none 0 0, .slice none 0 0, .slice none 0 0] 35 (0, 0)) ∧ Below w.heap.size w w1 ∧ Flows w1 v fs ∧ w.heap.size < w1.heap.size :=
      fun w1 hb => ⟨below_heap hb hR0 hlt0, hb0.trans (hb.mono (by omega)), hF.below hb (Nat.le_refl _), Nat.lt_of_lt_of_le hlt0 hb.size⟩
    rw [hW0] at hblk
    have HB := Lib.hid hblk
    obtain ⟨a, cap, rfl, hl, _⟩ := h
    have HN := Lib.hid hn; have HS := Lib.hid hs; have HOK := Lib.hid hok
    clear hblk hR0 hb0 hW0 hlt0 hn hs hok hF
    go_enter Tryd.func7, Tryd.ntmps7
    go_wp2_with (go_at_call 15; refine (HC.out).mono ?_; rintro e w1 ⟨rfl, hb1⟩; obtain ⟨hB3, hbw, hFw, hlw⟩ := HB.out _ hb1; have HFW := Lib.hid hFw; have HB3 := Lib.hid hB3; clear hB3 hb1 hFw)
    go_loopg [29] fs.length (fun g i ww => w1.grownBy ww none ∧ ∃ k : Nat, k + g = fs.length ∧ i = .int .i64 k ∧ rangeGo fs x fs.length 0 = rangeGo fs x g k)
    case atStart => exact ⟨grownBy_refl _ _, 0, by omega, rfl, rfl⟩
    case round =>
      obtain ⟨hg, k, hk, rfl, hgo⟩ := hrel
      have HG := Lib.hid hgo; clear hgo
      by_cases hlt : k < fs.length
      · obtain ⟨n, rfl⟩ : ∃ n, gk = n + 1 := ⟨gk - 1, by omega⟩
        have hb1r : Below w1.heap.size w1 wr := (Below.refl _ _).grown hg (Nat.le_refl _) (fun k hk => by cases hk)
        have hFr := HFW.out.below hb1r (Nat.le_refl _)
        obtain ⟨a', cap', e1, _, hc⟩ := hFr
        cases e1
        obtain ⟨b, off, rfl, hcell⟩ := hc (by omega)
        obtain ⟨c, p, q1, q2, q3, q4⟩ := hcell k hlt
        obtain ⟨ac, cc, rfl, hlc, _⟩ := q3
        obtain ⟨ap, cp, rfl, hlp, _⟩ := q4
        have hsz := hg.size
        clear hc hcell hb1r
        by_cases h1 : x < (fC fs k).length
        · have hR := Lib.hid (block3 (heap_kept (HB3.out) (grownBy_alloc hg (.cells #[.slice ac (fC fs k).length cc, .slice ap (fP fs k).length cp] 46)) (by simp)))
          obtain ⟨k0, k1, k2, z0, z1, z2⟩ := hR.out
          have hS := Lib.hid (block3_set (x' := .slice none 0 0) (y' := .slice none 0 0) (z' := .slice none 0 0) (heap_kept (HB3.out) (grownBy_alloc hg (.cells #[.slice ac (fC fs k).length cc, .slice ap (fP fs k).length cp] 46)) (by simp)))
          go_wp2
          obtain ⟨r0, r1, r2, _, _, _⟩ := block3 hS.out
          exact bodyPost_ret (v := .tuple #[.agg #[.slice none 0 0, .slice none 0 0, .slice none 0 0], .iface 26 (.int .i64 2)]) (by simp [results, Tryd.results7, go_sem, r0, r1, r2]) rfl ⟨by rw [HG.out, rangeGo_bad (.inl h1), errV_ne (by decide)], (((hbw.trans (((Below.refl _ _).grown hg (by omega) (fun k hk => by cases hk)).alloc (by omega) _)).setCell (Nat.le_refl _) _).setCell (Nat.le_refl _) _).setCell (Nat.le_refl _) _⟩
        · by_cases h2 : (fP fs k).length ≤ x
          · have hR := Lib.hid (block3 (heap_kept (HB3.out) (grownBy_alloc hg (.cells #[.slice ac (fC fs k).length cc, .slice ap (fP fs k).length cp] 46)) (by simp)))
            obtain ⟨k0, k1, k2, z0, z1, z2⟩ := hR.out
            have hS := Lib.hid (block3_set (x' := .slice none 0 0) (y' := .slice none 0 0) (z' := .slice none 0 0) (heap_kept (HB3.out) (grownBy_alloc hg (.cells #[.slice ac (fC fs k).length cc, .slice ap (fP fs k).length cp] 46)) (by simp)))
            go_wp2
            obtain ⟨r0, r1, r2, _, _, _⟩ := block3 hS.out
            exact bodyPost_ret (v := .tuple #[.agg #[.slice none 0 0, .slice none 0 0, .slice none 0 0], .iface 26 (.int .i64 2)]) (by simp [results, Tryd.results7, go_sem, r0, r1, r2]) rfl ⟨by rw [HG.out, rangeGo_bad (.inr h2), errV_ne (by decide)], (((hbw.trans (((Below.refl _ _).grown hg (by omega) (fun k hk => by cases hk)).alloc (by omega) _)).setCell (Nat.le_refl _) _).setCell (Nat.le_refl _) _).setCell (Nat.le_refl _) _⟩
          · have hne : ¬ (x < (fC fs k).length ∨ (fP fs k).length ≤ x) := by omega
            have HNE := Lib.hid hne; clear hne
            go_wp2
            go_roundg n
            case measure => omega
            case rel => exact ⟨grownBy_alloc hg _, k + 1, by omega, by go_num, by rw [HG.out, rangeGo_on HNE.out]⟩
      · exact absurd (by rw [HG.out, show gk = 0 by omega]; rfl) HN.out
  · rw [makeChk_bad hs] at hn ⊢
    rw [errV_ne hs, hW0] at hchk
    have HC := Lib.hid hchk; clear hchk
    have HN := Lib.hid hn; have HS := Lib.hid hs; clear hn hs hF
    have hblk : ∀ w1, Below W0.heap.size W0 w1 → w1.heap[w.heap.size]? = some (.cells #[.slice none 0 0, .slice none 0 0, .slice none 0 0] 35 (0, 0)) ∧ Below w.heap.size w w1 := fun w1 hb => ⟨below_heap hb hR0 hlt0, hb0.trans (hb.mono (by omega))⟩
    rw [hW0] at hblk
    have HB := Lib.hid hblk
    clear hblk hR0 hb0 hW0 h hlt0
    go_enter Tryd.func7, Tryd.ntmps7
    go_wp2_with (go_at_call 15; refine (HC.out).mono ?_; rintro e w1 ⟨rfl, hb1⟩; obtain ⟨hB3, hbw⟩ := HB.out _ hb1; obtain ⟨k0, k1, k2, z0, z1, z2⟩ := block3 hB3; have hS := Lib.hid (block3_set (x' := .slice none 0 0) (y' := .slice none 0 0) (z' := .slice none 0 0) hB3); clear hB3 hb1)
    obtain ⟨r0, r1, r2, _, _, _⟩ := block3 hS.out
    exact bodyPost_ret (v := .tuple #[.agg #[.slice none 0 0, .slice none 0 0, .slice none 0 0], .iface 26 (.int .i64 (scedChk fs))]) (by simp [results, Tryd.results7, go_sem, r0, r1, r2]) rfl ⟨by rw [errV_ne HN.out], ((hbw.setCell (Nat.le_refl _) _).setCell (Nat.le_refl _) _).setCell (Nat.le_refl _) _⟩
end Go.Proofs.YtmljdgedndbipaaDoor
