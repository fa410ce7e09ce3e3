/-
  What is proved here: the law FilterMeans answers true (11.1).
-/
import Derived.Test.YtkijaminnalfgaaDoorFiltM2
namespace Go.Proofs.YtkijaminnalfgaaDoor
open Go.RowKit Go.Sort

theorem parseE_some {s : ByteArray} {a : Ast} (h : (parseE s).2.2 = some a) : (parseE s).1 = 0 := by
  unfold parseE at h ⊢
  split at h
  · cases h
  · rename_i h0
    rw [if_neg h0]
    split at h
    · cases h
    · split at h
      · rename_i h2; rw [if_pos h2]
      · cases h
theorem parseE_none {s : ByteArray} (h : (parseE s).2.2 = none) : (parseE s).1 ≠ 0 := by
  unfold parseE at h ⊢
  split at h
  · rename_i h0; rw [if_pos h0]; simp
  · rename_i h0
    rw [if_neg h0]
    split at h
    · rename_i h1; exact one_err _ _ _ _ h1
    · split at h
      · cases h
      · rename_i h2; rw [if_neg h2]; simp
theorem block2b {W : World} {b : Nat} {x y : Value} {t : TypeId} (h : W.heap[b]? = some (.cells #[x, y] t (0, 0))) : W.cell? ⟨b, 0, none⟩ = some x ∧ W.cell? ⟨b, 1, none⟩ = some y ∧ W.frozen? ⟨b, 0, none⟩ = false ∧ W.frozen? ⟨b, 1, none⟩ = false := block2 h
set_option maxHeartbeats 2000000 in
set_option maxRecDepth 100000 in
theorem means_law {lo : Nat} (s : ByteArray) (a : Nat → Int) (w : World) (hE : EnvF lo w) (hm : s.size ≤ 9223372036854775807) :
    Calls Tryd.prog 3 #[.string s, xv a] w fun e w' => e = .returned (.bool true) ∧ Below w.heap.size w w' := by
  by_cases hs : 2000 < s.size
  · unfold xv
    go_enter Tryd.func3, Tryd.ntmps3
    go_wp2
    go_ret
    exact ⟨rfl, (Below.refl _ _).alloc (Nat.le_refl _) _⟩
  · have hs2 : s.size ≤ 2000 := by omega
    have hd2 : decide ((2000 : Int) < (s.size : Int)) = false := by simp; omega
    have hlo := hE.hi
    have HE := Lib.hid hE
    have hr := rparse_any s (w.alloc (xObj a)) (hE.below ((Below.refl _ _).alloc hE.hi _)) hs2
    obtain ⟨e, he⟩ : ∃ e, e = (parseE s).1 := ⟨_, rfl⟩
    obtain ⟨pl, hpl⟩ : ∃ pl, pl = (parseE s).2.1 := ⟨_, rfl⟩
    cases ho : (parseE s).2.2 with
    | none =>
      have hne : e ≠ 0 := by rw [he]; exact parseE_none ho
      unfold RParseP at hr
      rw [← he, ← hpl, ho] at hr
      have HR := Lib.hid hr
      clear hE hr he hpl ho hs
      unfold xv
      go_enter Tryd.func3, Tryd.ntmps3
      go_wp2_with (go_at_call 5; refine HR.out.mono ?_; rintro r w2 ⟨p, rfl, hb2, _⟩)
      go_ret
      exact ⟨rfl, ((((Below.refl _ _).alloc (Nat.le_refl _) _).trans (hb2.mono (by simp))).alloc (by have := hb2.size; simp at this; omega) _)⟩
    | some A =>
      have he0 : e = 0 := by rw [he]; exact parseE_some ho
      subst he0
      unfold RParseP at hr
      rw [← he, ← hpl, ho] at hr
      have HR := Lib.hid hr; have HO := Lib.hid ho
      have hv : ∀ W, Below w.heap.size w W → Calls Tryd.prog 6 #[.string s] W (ParseV W s) := fun W hb => parsev s W (hE.below (hb.mono hE.hi)) hs2
      have HV := Lib.hid hv
      clear hE hr he hpl ho hs hv
      unfold xv
      go_enter Tryd.func3, Tryd.ntmps3
      go_wp2_with (first
        | (go_at_call 6; refine (HV.out _ HB2.out).mono ?_; rintro r w3 ⟨fv, ev, rfl, hb3, hm3⟩; rw [HO.out] at hm3; obtain ⟨rfl, hvA⟩ := hm3; obtain ⟨t, p', fn, rfl, hmeth, hent, hcall⟩ := vmeant (a := a) hvA)
        | (go_at_call 5; refine HR.out.mono ?_; rintro r w2 ⟨p, rfl, hb2, hAst⟩; obtain ⟨B, rfl, hAB⟩ := hAst A rfl; have hbw := (((Below.refl w.heap.size w).alloc (Nat.le_refl _) (xObj a)).trans (hb2.mono (by simp))); have HB2 := Lib.hid (hbw.alloc hbw.size (.cells #[.int .i64 0, .int .i64 pl] 27)); have HB1 := Lib.hid hb2; have HAB := Lib.hid hAB; clear hb2 hAst hAB hbw))
      have hb2s := HB1.out.size
      rw [size_alloc] at hb2s
      have hx2 : w2.heap[w.heap.size]? = some (xObj a) := (HB1.out.block w.heap.size (by simp)).trans (heap_alloc_new _ _)
      have hx3 : w3.heap[w.heap.size]? = some (xObj a) := ((hb3.block w.heap.size (by simp; omega)).trans (Below.heap_alloc _ _ _ (by omega))).trans hx2
      have hb3s := hb3.size
      rw [size_alloc] at hb3s
      have hB3 : Below w.heap.size w w3 := HB2.out.trans (hb3.mono (by simp; omega))
      have hA3 : RAst (fun _ => True) w3 B A := HAB.out.kept fun b _ hlt => ⟨trivial, (hb3.block b (by simp; omega)).trans (Below.heap_alloc _ _ _ hlt)⟩
      obtain ⟨x0, x1, x2, x3, x4⟩ := xcells hx3
      have HX3 := Lib.hid hx3; have HB3 := Lib.hid hB3; have HA3 := Lib.hid hA3; have HCALL := Lib.hid hcall
      have hxl := (Array.getElem?_eq_some_iff.1 hx3).1
      have HRM : Hid (∀ W, Below w3.heap.size w3 W → Calls Tryd.prog 7 #[ptrP B, xv a] W (RMP a W (meant a band A))) := Lib.hid fun W hb => rmeant (S := fun _ => True) (hA3.kept fun b _ hlt => ⟨trivial, hb.block b hlt⟩)
      clear hb3 hx2 hx3 hB3 hA3 hcall hvA HB1 HB2 HAB hb2s hb3s
      refine wp_region_late (fun W => W.cell? ⟨w.heap.size, 0, none⟩ = some (.int .i64 (a 0)) ∧ W.cell? ⟨w.heap.size, 1, none⟩ = some (.int .i64 (a 1)) ∧ W.cell? ⟨w.heap.size, 2, none⟩ = some (.int .i64 (a 2)) ∧ W.cell? ⟨w.heap.size, 3, none⟩ = some (.int .i64 (a 3)) ∧ W.cell? ⟨w.heap.size, 4, none⟩ = some (.int .i64 (a 4))) [13] rfl ⟨x0, x1, x2, x3, x4⟩ (fun hHeld => ?_)
      refine wpAnyT_takePD (i := 0) (d := 25) (oi := _) (v := ?zv1) rfl rfl (by kernel_rfl) (fun _ _ _ h => h) (Or.inl ⟨by rfl, ?zy1⟩) (by assumption) ?zr1
      case zy1 => (intro w hSw; (try dsimp only at hSw); go_split_ands; go_simp; (try rw [if_pos (by omega)]); (try go_simp); try with_reducible rfl)
      simp only [List.setIfInBounds_toArray, List.set_cons_zero, List.set_cons_succ]
      refine wpAnyT_takePD (i := 1) (d := 26) (oi := _) (v := ?zv2) rfl rfl (by kernel_rfl) (fun _ _ _ h => h) (Or.inl ⟨by rfl, ?zy2⟩) (by assumption) ?zr2
      case zy2 => (intro w hSw; (try dsimp only at hSw); go_split_ands; go_simp; (try rw [if_pos (by omega)]); (try go_simp); try with_reducible rfl)
      simp only [List.setIfInBounds_toArray, List.set_cons_zero, List.set_cons_succ]
      refine wpAnyT_takePD (i := 2) (d := 27) (oi := _) (v := ?zv3) rfl rfl (by kernel_rfl) (fun _ _ _ h => h) (Or.inl ⟨by rfl, ?zy3⟩) (by assumption) ?zr3
      case zy3 => (intro w hSw; (try dsimp only at hSw); go_split_ands; go_simp; (try rw [if_pos (by omega)]); (try go_simp); try with_reducible rfl)
      simp only [List.setIfInBounds_toArray, List.set_cons_zero, List.set_cons_succ]
      refine wpAnyT_takePD (i := 3) (d := 28) (oi := _) (v := ?zv4) rfl rfl (by kernel_rfl) (fun _ _ _ h => h) (Or.inl ⟨by rfl, ?zy4⟩) (by assumption) ?zr4
      case zy4 => (intro w hSw; (try dsimp only at hSw); go_split_ands; go_simp; (try rw [if_pos (by omega)]); (try go_simp); try with_reducible rfl)
      simp only [List.setIfInBounds_toArray, List.set_cons_zero, List.set_cons_succ]
      refine wpAnyT_takePD (i := 4) (d := 29) (oi := _) (v := ?zv5) rfl rfl (by kernel_rfl) (fun _ _ _ h => h) (Or.inl ⟨by rfl, ?zy5⟩) (by assumption) ?zr5
      case zy5 => (intro w hSw; (try dsimp only at hSw); go_split_ands; go_simp; (try rw [if_pos (by omega)]); (try go_simp); try with_reducible rfl)
      simp only [List.setIfInBounds_toArray, List.set_cons_zero, List.set_cons_succ]
      refine wpAnyT_takePD (i := 5) (d := 30) (oi := _) (v := ?zv6) rfl rfl (by kernel_rfl) (fun _ _ _ h => h) (Or.inl ⟨by rfl, ?zy6⟩) (by assumption) ?zr6
      case zy6 => (intro w hSw; (try dsimp only at hSw); go_split_ands; go_simp; (try rw [if_pos (by omega)]); (try go_simp); try with_reducible rfl)
      simp only [List.setIfInBounds_toArray, List.set_cons_zero, List.set_cons_succ]
      refine wpAnyT_takePD (i := 6) (d := 31) (oi := _) (v := ?zv7) rfl rfl (by kernel_rfl) (fun _ _ _ h => h) (Or.inl ⟨by rfl, ?zy7⟩) (by assumption) ?zr7
      case zy7 => (intro w hSw; (try dsimp only at hSw); go_split_ands; go_simp; (try rw [if_pos (by omega)]); (try go_simp); try with_reducible rfl)
      simp only [List.setIfInBounds_toArray, List.set_cons_zero, List.set_cons_succ]
      refine wpAnyT_takePD (i := 7) (d := 32) (oi := _) (v := ?zv8) rfl rfl (by kernel_rfl) (fun _ _ _ h => h) (Or.inl ⟨by rfl, ?zy8⟩) (by assumption) ?zr8
      case zy8 => (intro w hSw; (try dsimp only at hSw); go_split_ands; go_simp; (try rw [if_pos (by omega)]); (try go_simp); try with_reducible rfl)
      simp only [List.setIfInBounds_toArray, List.set_cons_zero, List.set_cons_succ]
      refine wpAnyT_takeD (i := 8) (d := 33) (oi := _) (v := ?zv9) rfl rfl (by kernel_rfl) (fun _ _ _ h => h) (Or.inl ⟨by rfl, ?zy9⟩) (by assumption) ?zr9
      case zy9 => (intro w hSw; (try dsimp only at hSw); go_split_ands; go_simp; (try rw [if_pos (by omega)]); (try go_simp); try with_reducible rfl)
      simp only [List.setIfInBounds_toArray, List.set_cons_zero, List.set_cons_succ]
      refine wpAnyT_takePD (i := 10) (d := 35) (oi := _) (v := ?zv10) rfl rfl (by kernel_rfl) (fun _ _ _ h => h) (Or.inl ⟨by rfl, ?zy10⟩) (by assumption) ?zr10
      case zy10 => (intro w hSw; (try dsimp only at hSw); go_split_ands; go_simp; (try rw [if_pos (by omega)]); (try go_simp); try with_reducible rfl)
      simp only [List.setIfInBounds_toArray, List.set_cons_zero, List.set_cons_succ]
      refine wpAnyT_takeD (i := 11) (d := 36) (oi := _) (v := ?zv11) rfl rfl (by kernel_rfl) (fun _ _ _ h => h) (Or.inl ⟨by rfl, ?zy11⟩) (by assumption) ?zr11
      case zy11 => (intro w hSw; (try dsimp only at hSw); go_split_ands; go_simp; (try rw [if_pos (by omega)]); (try go_simp); try with_reducible rfl)
      simp only [List.setIfInBounds_toArray, List.set_cons_zero, List.set_cons_succ]
      refine wpAnyT_ready (rs := [9]) (by kernel_rfl) (by simp) (AllReadyT.cons rfl (fun K2 hK2 => ?_) AllReadyT.nil)
      go_simp
      refine Calls.mono (HCALL.out _ (⟨rfl, rfl, rfl, Nat.le_refl _, fun _ _ => rfl⟩ : Below w3.heap.size w3 w3.drew)) ?_
      rintro r w4 ⟨rfl, hb4⟩
      have hb34 : Below w3.heap.size w3 w4 := ⟨hb4.os, hb4.tape, hb4.output, hb4.size, hb4.block⟩
      obtain ⟨q0, q1, q2, q3, q4⟩ := xcells ((hb34.block w.heap.size hxl).trans HX3.out)
      have HB34 := Lib.hid hb34
      clear hb4 hb34 hHeld
      refine hK2.out _ _ ⟨q0, q1, q2, q3, q4⟩ (fun _ => ?_)
      refine wpAnyT_ready (rs := [12]) (by kernel_rfl) (by simp) (AllReadyT.cons rfl (fun K3 hK3 => ?_) AllReadyT.nil)
      go_simp
      refine Calls.mono (HRM.out _ HB34.out) ?_
      rintro r w5 ⟨rfl, hb5⟩
      have hb35 : Below w3.heap.size w3 w5 := HB34.out.trans (hb5.mono HB34.out.size)
      obtain ⟨p0, p1, p2, p3, p4⟩ := xcells ((hb35.block w.heap.size hxl).trans HX3.out)
      have HB35 := Lib.hid (HB3.out.trans (hb35.mono HB3.out.size))
      clear hb5 hb35
      refine hK3.out _ _ ⟨p0, p1, p2, p3, p4⟩ (fun _ => ?_)
      refine wpAnyT_tail 13 (by simp) rfl (by simp) (by kernel_rfl) ?_
      simp only [List.drop_succ_cons, List.drop_zero]
      go_wp2_with fail
      go_ret
      exact ⟨ret_bool (by simp), HB35.out⟩
end Go.Proofs.YtkijaminnalfgaaDoor
