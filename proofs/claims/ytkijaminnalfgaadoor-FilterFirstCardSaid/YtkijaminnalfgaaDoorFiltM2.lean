/-
  What is proved here: which packets the document's filters mean (11.1); the first of several of the program's filters (11.3).
-/
import Derived.Test.YtkijaminnalfgaaDoorFiltM1
namespace Go.Proofs.YtkijaminnalfgaaDoor
open Go.RowKit Go.Sort

def RMP (_a : Nat → Int) (w : World) (b : Bool) (e : Ending) (w' : World) : Prop := e = .returned (.bool b) ∧ Below w.heap.size w w'
theorem five_cell {W : World} {b f : Nat} {a : Nat → Int} {t : TypeId} (h : W.heap[b]? = some (.cells #[.int .i64 (a 0), .int .i64 (a 1), .int .i64 (a 2), .int .i64 (a 3), .int .i64 (a 4)] t (0, 0))) (hf : f < 5) : W.cell? ⟨b, f, none⟩ = some (.int .i64 (a f)) := by
  obtain rfl | rfl | rfl | rfl | rfl : f = 0 ∨ f = 1 ∨ f = 2 ∨ f = 3 ∨ f = 4 := by omega
  all_goals simp [World.cell?, h]
/-- Behind the first statement: the packet in a block, the filter as it was. -/
structure RM0 (a : Nat → Int) (w : World) (B : Nat) (o : Obj) (W : World) : Prop where
  b : Below w.heap.size w W
  f : W.heap[B]? = some o
  x : W.heap[w.heap.size]? = some (xObj a)
theorem rmeant_any {a : Nat → Int} {B : Nat} {w : World} (h : w.heap[B]? = some (fltObj kAny 0 0 0 (.slice none 0 0))) :
    Calls Tryd.prog 7 #[ptrP B, xv a] w (RMP a w true) := by
  have hf5 : (0 : Nat) < 5 := by omega
  unfold xv
  have H := Lib.hid h
  have hBl := (Array.getElem?_eq_some_iff.1 h).1
  clear h
  go_enter Tryd.func7, Tryd.ntmps7
  go_wp2_with fail
  have hX := heap_alloc_new w (xObj a)
  have hF := (Below.heap_alloc w (xObj a) B hBl).trans H.out
  obtain ⟨x0, x1, x2, x3, x4⟩ := xcells hX
  obtain ⟨f0, f1, f2, f3, f4, e0, e1, e2, e3, e4⟩ := block5 hF
  have HX := Lib.hid hX; have HF := Lib.hid hF
  clear hX hF e0 e1 e2 e3 e4
  refine wp_region_late (fun W => W.cell? ⟨w.heap.size, 0, none⟩ = some (.int .i64 (a 0)) ∧ W.cell? ⟨w.heap.size, 1, none⟩ = some (.int .i64 (a 1)) ∧ W.cell? ⟨w.heap.size, 2, none⟩ = some (.int .i64 (a 2)) ∧ W.cell? ⟨w.heap.size, 3, none⟩ = some (.int .i64 (a 3)) ∧ W.cell? ⟨w.heap.size, 4, none⟩ = some (.int .i64 (a 4)) ∧ W.cell? ⟨B, 1, none⟩ = some (.int .i64 0)) [15] rfl ⟨x0, x1, x2, x3, x4, f1⟩ (fun hHeld => ?_)
  refine wpAnyT_takePD (i := 0) (d := 10) (oi := _) (v := ?zv1) rfl rfl (by kernel_rfl) (fun _ _ _ h => h) (Or.inl ⟨by rfl, ?zy1⟩) (by assumption) ?zr1
  case zy1 => (intro w hSw; (try dsimp only at hSw); go_split_ands; go_simp; (try rw [if_pos (by omega)]); (try go_simp); try with_reducible rfl)
  simp only [List.setIfInBounds_toArray, List.set_cons_zero, List.set_cons_succ]
  refine wpAnyT_takeD (i := 1) (d := 11) (oi := _) (v := ?zv2) rfl rfl (by kernel_rfl) (fun _ _ _ h => h) (Or.inl ⟨by rfl, ?zy2⟩) (by assumption) ?zr2
  case zy2 => (intro w hSw; (try dsimp only at hSw); go_split_ands; go_simp; (try rw [if_pos (by omega)]); (try go_simp); try with_reducible rfl)
  simp only [List.setIfInBounds_toArray, List.set_cons_zero, List.set_cons_succ]
  refine wpAnyT_takePD (i := 2) (d := 12) (oi := _) (v := ?zv3) rfl rfl (by kernel_rfl) (fun _ _ _ h => h) (Or.inl ⟨by rfl, ?zy3⟩) (by assumption) ?zr3
  case zy3 => (intro w hSw; (try dsimp only at hSw); go_split_ands; go_simp; (try rw [if_pos (by omega)]); (try go_simp); try with_reducible rfl)
  simp only [List.setIfInBounds_toArray, List.set_cons_zero, List.set_cons_succ]
  refine wpAnyT_takeD (i := 3) (d := 13) (oi := _) (v := ?zv4) rfl rfl (by kernel_rfl) (fun _ _ _ h => h) (Or.inl ⟨by rfl, ?zy4⟩) (by assumption) ?zr4
  case zy4 => (intro w hSw; (try dsimp only at hSw); go_split_ands; go_simp; (try rw [if_pos (by omega)]); (try go_simp); try with_reducible rfl)
  simp only [List.setIfInBounds_toArray, List.set_cons_zero, List.set_cons_succ]
  refine wpAnyT_takePD (i := 4) (d := 14) (oi := _) (v := ?zv5) rfl rfl (by kernel_rfl) (fun _ _ _ h => h) (Or.inl ⟨by rfl, ?zy5⟩) (by assumption) ?zr5
  case zy5 => (intro w hSw; (try dsimp only at hSw); go_split_ands; go_simp; (try rw [if_pos (by omega)]); (try go_simp); try with_reducible rfl)
  simp only [List.setIfInBounds_toArray, List.set_cons_zero, List.set_cons_succ]
  refine wpAnyT_takeD (i := 5) (d := 15) (oi := _) (v := ?zv6) rfl rfl (by kernel_rfl) (fun _ _ _ h => h) (Or.inl ⟨by rfl, ?zy6⟩) (by assumption) ?zr6
  case zy6 => (intro w hSw; (try dsimp only at hSw); go_split_ands; go_simp; (try rw [if_pos (by omega)]); (try go_simp); try with_reducible rfl)
  simp only [List.setIfInBounds_toArray, List.set_cons_zero, List.set_cons_succ]
  refine wpAnyT_takePD (i := 6) (d := 16) (oi := _) (v := ?zv7) rfl rfl (by kernel_rfl) (fun _ _ _ h => h) (Or.inl ⟨by rfl, ?zy7⟩) (by assumption) ?zr7
  case zy7 => (intro w hSw; (try dsimp only at hSw); go_split_ands; go_simp; (try rw [if_pos (by omega)]); (try go_simp); try with_reducible rfl)
  simp only [List.setIfInBounds_toArray, List.set_cons_zero, List.set_cons_succ]
  refine wpAnyT_takeD (i := 7) (d := 17) (oi := _) (v := ?zv8) rfl rfl (by kernel_rfl) (fun _ _ _ h => h) (Or.inl ⟨by rfl, ?zy8⟩) (by assumption) ?zr8
  case zy8 => (intro w hSw; (try dsimp only at hSw); go_split_ands; go_simp; (try rw [if_pos (by omega)]); (try go_simp); try with_reducible rfl)
  simp only [List.setIfInBounds_toArray, List.set_cons_zero, List.set_cons_succ]
  refine wpAnyT_takePD (i := 8) (d := 18) (oi := _) (v := ?zv9) rfl rfl (by kernel_rfl) (fun _ _ _ h => h) (Or.inl ⟨by rfl, ?zy9⟩) (by assumption) ?zr9
  case zy9 => (intro w hSw; (try dsimp only at hSw); go_split_ands; go_simp; (try rw [if_pos (by omega)]); (try go_simp); try with_reducible rfl)
  simp only [List.setIfInBounds_toArray, List.set_cons_zero, List.set_cons_succ]
  refine wpAnyT_takeD (i := 9) (d := 19) (oi := _) (v := ?zv10) rfl rfl (by kernel_rfl) (fun _ _ _ h => h) (Or.inl ⟨by rfl, ?zy10⟩) (by assumption) ?zr10
  case zy10 => (intro w hSw; (try dsimp only at hSw); go_split_ands; go_simp; (try rw [if_pos (by omega)]); (try go_simp); try with_reducible rfl)
  simp only [List.setIfInBounds_toArray, List.set_cons_zero, List.set_cons_succ]
  refine wpAnyT_takePD (i := 11) (d := 21) (oi := _) (v := ?zv11) rfl rfl (by kernel_rfl) (fun _ _ _ h => h) (Or.inl ⟨by rfl, ?zy11⟩) (by assumption) ?zr11
  case zy11 => (intro w hSw; (try dsimp only at hSw); go_split_ands; go_simp; (try rw [if_pos (by omega)]); (try go_simp); try with_reducible rfl)
  simp only [List.setIfInBounds_toArray, List.set_cons_zero, List.set_cons_succ]
  refine wpAnyT_takePD (i := 12) (d := 22) (oi := _) (v := ?zv12) rfl rfl (by kernel_rfl) (fun _ _ _ h => h) (Or.inl ⟨by rfl, ?zy12⟩) (by assumption) ?zr12
  case zy12 => (intro w hSw; (try dsimp only at hSw); go_split_ands; go_simp; (try rw [if_pos (by omega)]); (try go_simp); try with_reducible rfl)
  simp only [List.setIfInBounds_toArray, List.set_cons_zero, List.set_cons_succ]
  refine wpAnyT_takePD (i := 13) (d := 23) (oi := _) (v := ?zv13) rfl rfl (by kernel_rfl) (fun _ _ _ h => h) (Or.inl ⟨by rfl, ?zy13⟩) (by assumption) ?zr13
  case zy13 => (intro w hSw; (try dsimp only at hSw); go_split_ands; go_simp; (try rw [if_pos (by omega)]); (try go_simp); try with_reducible rfl)
  simp only [List.setIfInBounds_toArray, List.set_cons_zero, List.set_cons_succ]
  refine wpAnyT_takeD (i := 14) (d := 24) (oi := _) (v := ?zv14) rfl rfl (by kernel_rfl) (fun _ _ _ h => h) (Or.inl ⟨by rfl, ?zy14⟩) (by assumption) ?zr14
  case zy14 => (intro w hSw; (try dsimp only at hSw); go_split_ands; go_simp; (try rw [if_pos (by omega)]); (try go_simp); try with_reducible rfl)
  simp only [List.setIfInBounds_toArray, List.set_cons_zero, List.set_cons_succ]
  refine wpAnyT_ready (rs := [10]) (by kernel_rfl) (by simp) (AllReadyT.cons rfl (fun K2 hK2 => ?_) AllReadyT.nil)
  go_simp
  have hA := alloc2_both w (xObj a) (.cells #[.int .i64 (a 0), .int .i64 (a 1), .int .i64 (a 2), .int .i64 (a 3), .int .i64 (a 4)] 3) 0
  have hA1 : RM0 a w B (fltObj kAny 0 0 0 (.slice none 0 0)) (((w.alloc (xObj a)).alloc (.cells #[.int .i64 (a 0), .int .i64 (a 1), .int .i64 (a 2), .int .i64 (a 3), .int .i64 (a 4)] 3)).drew) := ⟨(((Below.refl _ _).alloc (Nat.le_refl _) _).alloc (by simp) _).trans ⟨rfl, rfl, rfl, Nat.le_refl _, fun _ _ => rfl⟩, (Below.heap_alloc _ _ B (by rw [size_alloc]; omega)).trans HF.out, hA.1⟩
  have hA2 := five_cell hA.2 hf5
  obtain ⟨y0, y1, y2, y3, y4⟩ := xcells hA1.x
  have y5 := (block5 hA1.f).2.1
  have HA1 := Lib.hid hA1; have HA2 := Lib.hid hA2
  clear hA hA1 hA2
  refine hK2.out _ _ ⟨y0, y1, y2, y3, y4, y5⟩ (fun _ => ?_)
  clear y0 y1 y2 y3 y4 y5 x0 x1 x2 x3 x4 f0 f1 f2 f3 f4 hHeld HX HF
  refine wpAnyT_forget (fun W => RM0 a w B (fltObj kAny 0 0 0 (.slice none 0 0)) W ∧ W.cell? ⟨w.heap.size + 1, 0, none⟩ = some (.int .i64 (a 0))) ⟨HA1.out, HA2.out⟩ ?_
  rintro W ⟨hM, h5⟩
  clear HA1 HA2
  obtain ⟨f0, f1, f2, f3, f4, e0, e1, e2, e3, e4⟩ := block5 hM.f
  have f0l : W.cell? ⟨B, 0, none⟩ = some (.string ⟨#[97, 110, 121]⟩) := f0
  obtain ⟨x0, x1, x2, x3, x4⟩ := xcells hM.x
  have HM := Lib.hid hM
  clear hM f0
  refine wpAnyT_tail 15 (by simp) rfl (by simp) (by kernel_rfl) ?_
  simp only [List.drop_succ_cons, List.drop_zero]
  go_wp2_with fail
  go_ret
  exact ⟨rfl, HM.out.b⟩
set_option maxHeartbeats 1000000 in
set_option maxRecDepth 100000 in
theorem rmeant_test {a : Nat → Int} {B f : Nat} {lo hi : Int} {w : World} (hf5 : f < 5) (h : w.heap[B]? = some (fltObj kTest f lo hi (.slice none 0 0))) :
    Calls Tryd.prog 7 #[ptrP B, xv a] w (RMP a w (decide (lo ≤ a f) && decide (a f ≤ hi))) := by
  unfold xv
  have H := Lib.hid h
  have hBl := (Array.getElem?_eq_some_iff.1 h).1
  clear h
  go_enter Tryd.func7, Tryd.ntmps7
  go_wp2_with fail
  have hX := heap_alloc_new w (xObj a)
  have hF := (Below.heap_alloc w (xObj a) B hBl).trans H.out
  obtain ⟨x0, x1, x2, x3, x4⟩ := xcells hX
  obtain ⟨f0, f1, f2, f3, f4, e0, e1, e2, e3, e4⟩ := block5 hF
  have HX := Lib.hid hX; have HF := Lib.hid hF
  clear hX hF e0 e1 e2 e3 e4
  refine wp_region_late (fun W => W.cell? ⟨w.heap.size, 0, none⟩ = some (.int .i64 (a 0)) ∧ W.cell? ⟨w.heap.size, 1, none⟩ = some (.int .i64 (a 1)) ∧ W.cell? ⟨w.heap.size, 2, none⟩ = some (.int .i64 (a 2)) ∧ W.cell? ⟨w.heap.size, 3, none⟩ = some (.int .i64 (a 3)) ∧ W.cell? ⟨w.heap.size, 4, none⟩ = some (.int .i64 (a 4)) ∧ W.cell? ⟨B, 1, none⟩ = some (.int .i64 f)) [15] rfl ⟨x0, x1, x2, x3, x4, f1⟩ (fun hHeld => ?_)
  refine wpAnyT_takePD (i := 0) (d := 10) (oi := _) (v := ?zv16) rfl rfl (by kernel_rfl) (fun _ _ _ h => h) (Or.inl ⟨by rfl, ?zy16⟩) (by assumption) ?zr16
  case zy16 => (intro w hSw; (try dsimp only at hSw); go_split_ands; go_simp; (try rw [if_pos (by omega)]); (try go_simp); try with_reducible rfl)
  simp only [List.setIfInBounds_toArray, List.set_cons_zero, List.set_cons_succ]
  refine wpAnyT_takeD (i := 1) (d := 11) (oi := _) (v := ?zv17) rfl rfl (by kernel_rfl) (fun _ _ _ h => h) (Or.inl ⟨by rfl, ?zy17⟩) (by assumption) ?zr17
  case zy17 => (intro w hSw; (try dsimp only at hSw); go_split_ands; go_simp; (try rw [if_pos (by omega)]); (try go_simp); try with_reducible rfl)
  simp only [List.setIfInBounds_toArray, List.set_cons_zero, List.set_cons_succ]
  refine wpAnyT_takePD (i := 2) (d := 12) (oi := _) (v := ?zv18) rfl rfl (by kernel_rfl) (fun _ _ _ h => h) (Or.inl ⟨by rfl, ?zy18⟩) (by assumption) ?zr18
  case zy18 => (intro w hSw; (try dsimp only at hSw); go_split_ands; go_simp; (try rw [if_pos (by omega)]); (try go_simp); try with_reducible rfl)
  simp only [List.setIfInBounds_toArray, List.set_cons_zero, List.set_cons_succ]
  refine wpAnyT_takeD (i := 3) (d := 13) (oi := _) (v := ?zv19) rfl rfl (by kernel_rfl) (fun _ _ _ h => h) (Or.inl ⟨by rfl, ?zy19⟩) (by assumption) ?zr19
  case zy19 => (intro w hSw; (try dsimp only at hSw); go_split_ands; go_simp; (try rw [if_pos (by omega)]); (try go_simp); try with_reducible rfl)
  simp only [List.setIfInBounds_toArray, List.set_cons_zero, List.set_cons_succ]
  refine wpAnyT_takePD (i := 4) (d := 14) (oi := _) (v := ?zv20) rfl rfl (by kernel_rfl) (fun _ _ _ h => h) (Or.inl ⟨by rfl, ?zy20⟩) (by assumption) ?zr20
  case zy20 => (intro w hSw; (try dsimp only at hSw); go_split_ands; go_simp; (try rw [if_pos (by omega)]); (try go_simp); try with_reducible rfl)
  simp only [List.setIfInBounds_toArray, List.set_cons_zero, List.set_cons_succ]
  refine wpAnyT_takeD (i := 5) (d := 15) (oi := _) (v := ?zv21) rfl rfl (by kernel_rfl) (fun _ _ _ h => h) (Or.inl ⟨by rfl, ?zy21⟩) (by assumption) ?zr21
  case zy21 => (intro w hSw; (try dsimp only at hSw); go_split_ands; go_simp; (try rw [if_pos (by omega)]); (try go_simp); try with_reducible rfl)
  simp only [List.setIfInBounds_toArray, List.set_cons_zero, List.set_cons_succ]
  refine wpAnyT_takePD (i := 6) (d := 16) (oi := _) (v := ?zv22) rfl rfl (by kernel_rfl) (fun _ _ _ h => h) (Or.inl ⟨by rfl, ?zy22⟩) (by assumption) ?zr22
  case zy22 => (intro w hSw; (try dsimp only at hSw); go_split_ands; go_simp; (try rw [if_pos (by omega)]); (try go_simp); try with_reducible rfl)
  simp only [List.setIfInBounds_toArray, List.set_cons_zero, List.set_cons_succ]
  refine wpAnyT_takeD (i := 7) (d := 17) (oi := _) (v := ?zv23) rfl rfl (by kernel_rfl) (fun _ _ _ h => h) (Or.inl ⟨by rfl, ?zy23⟩) (by assumption) ?zr23
  case zy23 => (intro w hSw; (try dsimp only at hSw); go_split_ands; go_simp; (try rw [if_pos (by omega)]); (try go_simp); try with_reducible rfl)
  simp only [List.setIfInBounds_toArray, List.set_cons_zero, List.set_cons_succ]
  refine wpAnyT_takePD (i := 8) (d := 18) (oi := _) (v := ?zv24) rfl rfl (by kernel_rfl) (fun _ _ _ h => h) (Or.inl ⟨by rfl, ?zy24⟩) (by assumption) ?zr24
  case zy24 => (intro w hSw; (try dsimp only at hSw); go_split_ands; go_simp; (try rw [if_pos (by omega)]); (try go_simp); try with_reducible rfl)
  simp only [List.setIfInBounds_toArray, List.set_cons_zero, List.set_cons_succ]
  refine wpAnyT_takeD (i := 9) (d := 19) (oi := _) (v := ?zv25) rfl rfl (by kernel_rfl) (fun _ _ _ h => h) (Or.inl ⟨by rfl, ?zy25⟩) (by assumption) ?zr25
  case zy25 => (intro w hSw; (try dsimp only at hSw); go_split_ands; go_simp; (try rw [if_pos (by omega)]); (try go_simp); try with_reducible rfl)
  simp only [List.setIfInBounds_toArray, List.set_cons_zero, List.set_cons_succ]
  refine wpAnyT_takePD (i := 11) (d := 21) (oi := _) (v := ?zv26) rfl rfl (by kernel_rfl) (fun _ _ _ h => h) (Or.inl ⟨by rfl, ?zy26⟩) (by assumption) ?zr26
  case zy26 => (intro w hSw; (try dsimp only at hSw); go_split_ands; go_simp; (try rw [if_pos (by omega)]); (try go_simp); try with_reducible rfl)
  simp only [List.setIfInBounds_toArray, List.set_cons_zero, List.set_cons_succ]
  refine wpAnyT_takePD (i := 12) (d := 22) (oi := _) (v := ?zv27) rfl rfl (by kernel_rfl) (fun _ _ _ h => h) (Or.inl ⟨by rfl, ?zy27⟩) (by assumption) ?zr27
  case zy27 => (intro w hSw; (try dsimp only at hSw); go_split_ands; go_simp; (try rw [if_pos (by omega)]); (try go_simp); try with_reducible rfl)
  simp only [List.setIfInBounds_toArray, List.set_cons_zero, List.set_cons_succ]
  refine wpAnyT_takePD (i := 13) (d := 23) (oi := _) (v := ?zv28) rfl rfl (by kernel_rfl) (fun _ _ _ h => h) (Or.inl ⟨by rfl, ?zy28⟩) (by assumption) ?zr28
  case zy28 => (intro w hSw; (try dsimp only at hSw); go_split_ands; go_simp; (try rw [if_pos (by omega)]); (try go_simp); try with_reducible rfl)
  simp only [List.setIfInBounds_toArray, List.set_cons_zero, List.set_cons_succ]
  refine wpAnyT_takeD (i := 14) (d := 24) (oi := _) (v := ?zv29) rfl rfl (by kernel_rfl) (fun _ _ _ h => h) (Or.inl ⟨by rfl, ?zy29⟩) (by assumption) ?zr29
  case zy29 => (intro w hSw; (try dsimp only at hSw); go_split_ands; go_simp; (try rw [if_pos (by omega)]); (try go_simp); try with_reducible rfl)
  simp only [List.setIfInBounds_toArray, List.set_cons_zero, List.set_cons_succ]
  refine wpAnyT_ready (rs := [10]) (by kernel_rfl) (by simp) (AllReadyT.cons rfl (fun K2 hK2 => ?_) AllReadyT.nil)
  go_simp
  have hA := alloc2_both w (xObj a) (.cells #[.int .i64 (a 0), .int .i64 (a 1), .int .i64 (a 2), .int .i64 (a 3), .int .i64 (a 4)] 3) 0
  have hA1 : RM0 a w B (fltObj kTest f lo hi (.slice none 0 0)) (((w.alloc (xObj a)).alloc (.cells #[.int .i64 (a 0), .int .i64 (a 1), .int .i64 (a 2), .int .i64 (a 3), .int .i64 (a 4)] 3)).drew) := ⟨(((Below.refl _ _).alloc (Nat.le_refl _) _).alloc (by simp) _).trans ⟨rfl, rfl, rfl, Nat.le_refl _, fun _ _ => rfl⟩, (Below.heap_alloc _ _ B (by rw [size_alloc]; omega)).trans HF.out, hA.1⟩
  have hA2 := five_cell hA.2 hf5
  obtain ⟨y0, y1, y2, y3, y4⟩ := xcells hA1.x
  have y5 := (block5 hA1.f).2.1
  have HA1 := Lib.hid hA1; have HA2 := Lib.hid hA2
  clear hA hA1 hA2
  refine hK2.out _ _ ⟨y0, y1, y2, y3, y4, y5⟩ (fun _ => ?_)
  clear y0 y1 y2 y3 y4 y5 x0 x1 x2 x3 x4 f0 f1 f2 f3 f4 hHeld HX HF
  refine wpAnyT_forget (fun W => RM0 a w B (fltObj kTest f lo hi (.slice none 0 0)) W ∧ W.cell? ⟨w.heap.size + 1, f, none⟩ = some (.int .i64 (a f))) ⟨HA1.out, HA2.out⟩ ?_
  rintro W ⟨hM, h5⟩
  clear HA1 HA2
  obtain ⟨f0, f1, f2, f3, f4, e0, e1, e2, e3, e4⟩ := block5 hM.f
  have f0l : W.cell? ⟨B, 0, none⟩ = some (.string ⟨#[116, 101, 115, 116]⟩) := f0
  obtain ⟨x0, x1, x2, x3, x4⟩ := xcells hM.x
  have HM := Lib.hid hM
  clear hM f0
  refine wpAnyT_tail 15 (by simp) rfl (by simp) (by kernel_rfl) ?_
  simp only [List.drop_succ_cons, List.drop_zero]
  by_cases h1 : lo ≤ a f
  · by_cases h2 : a f ≤ hi
    · go_wp2_with fail
      go_ret
      exact ⟨ret_bool (by simp; omega), HM.out.b⟩
    · go_wp2_with fail
      go_ret
      exact ⟨ret_bool (by simp; omega), HM.out.b⟩
  · go_wp2_with fail
    go_ret
    exact ⟨ret_bool (by simp; omega), HM.out.b⟩
theorem bit_div {n : Nat} {k : Nat} : (((n : Int) / ((2 ^ k : Nat) : Int) % 2) == 1) = n.testBit k := by
  rw [Nat.testBit_eq_decide_div_mod_eq, Bool.eq_iff_iff]
  simp only [beq_iff_eq, decide_eq_true_eq]
  omega
theorem and_pow (V k : Nat) : (V &&& 2 ^ k = 0) ↔ V.testBit k = false := by
  constructor
  · intro h
    have h2 := congrArg (Nat.testBit · k) h
    simpa [Nat.testBit_and, Nat.testBit_two_pow] using h2
  · intro h
    apply Nat.eq_of_testBit_eq
    intro j
    rw [Nat.testBit_and, Nat.testBit_two_pow, Nat.zero_testBit]
    by_cases hj : k = j
    · subst hj; rw [h]; rfl
    · simp [hj]
theorem bit_and {v : Int} {k : Nat} (hk : 2 ^ k ≤ 2000000000) : (bits .and .i64 v ((2 ^ k : Nat) : Int) == 0) = !(BitVec.ofInt 64 v).toNat.testBit k := by
  obtain ⟨p, hp⟩ : ∃ p, p = 2 ^ k := ⟨_, rfl⟩
  rw [← hp] at hk ⊢
  rw [bits_and_small (by omega) (by omega), Int.toNat_natCast, hp]
  have h := and_pow (BitVec.ofInt 64 v).toNat k
  cases hb : (BitVec.ofInt 64 v).toNat.testBit k
  · rw [h.2 hb]; rfl
  · have hne : (BitVec.ofInt 64 v).toNat &&& 2 ^ k ≠ 0 := fun e => by rw [h.1 e] at hb; cases hb
    rw [Bool.eq_iff_iff, beq_iff_eq]
    simp only [Bool.not_true, Bool.false_eq_true, iff_false]
    omega
set_option maxHeartbeats 1000000 in
set_option maxRecDepth 100000 in
theorem rmeant_has {a : Nat → Int} {B f N : Nat} {w : World} (hf5 : f < 5) (h9 : N ≤ 1000000000) (h : w.heap[B]? = some (fltObj kHas f N N (.slice none 0 0))) :
    Calls Tryd.prog 7 #[ptrP B, xv a] w (RMP a w (band (a f) N)) := by
  unfold xv
  have H := Lib.hid h
  have hBl := (Array.getElem?_eq_some_iff.1 h).1
  clear h
  go_enter Tryd.func7, Tryd.ntmps7
  go_wp2_with fail
  have hX := heap_alloc_new w (xObj a)
  have hF := (Below.heap_alloc w (xObj a) B hBl).trans H.out
  obtain ⟨x0, x1, x2, x3, x4⟩ := xcells hX
  obtain ⟨f0, f1, f2, f3, f4, e0, e1, e2, e3, e4⟩ := block5 hF
  have HX := Lib.hid hX; have HF := Lib.hid hF
  clear hX hF e0 e1 e2 e3 e4
  refine wp_region_late (fun W => W.cell? ⟨w.heap.size, 0, none⟩ = some (.int .i64 (a 0)) ∧ W.cell? ⟨w.heap.size, 1, none⟩ = some (.int .i64 (a 1)) ∧ W.cell? ⟨w.heap.size, 2, none⟩ = some (.int .i64 (a 2)) ∧ W.cell? ⟨w.heap.size, 3, none⟩ = some (.int .i64 (a 3)) ∧ W.cell? ⟨w.heap.size, 4, none⟩ = some (.int .i64 (a 4)) ∧ W.cell? ⟨B, 1, none⟩ = some (.int .i64 f)) [15] rfl ⟨x0, x1, x2, x3, x4, f1⟩ (fun hHeld => ?_)
  refine wpAnyT_takePD (i := 0) (d := 10) (oi := _) (v := ?zv31) rfl rfl (by kernel_rfl) (fun _ _ _ h => h) (Or.inl ⟨by rfl, ?zy31⟩) (by assumption) ?zr31
  case zy31 => (intro w hSw; (try dsimp only at hSw); go_split_ands; go_simp; (try rw [if_pos (by omega)]); (try go_simp); try with_reducible rfl)
  simp only [List.setIfInBounds_toArray, List.set_cons_zero, List.set_cons_succ]
  refine wpAnyT_takeD (i := 1) (d := 11) (oi := _) (v := ?zv32) rfl rfl (by kernel_rfl) (fun _ _ _ h => h) (Or.inl ⟨by rfl, ?zy32⟩) (by assumption) ?zr32
  case zy32 => (intro w hSw; (try dsimp only at hSw); go_split_ands; go_simp; (try rw [if_pos (by omega)]); (try go_simp); try with_reducible rfl)
  simp only [List.setIfInBounds_toArray, List.set_cons_zero, List.set_cons_succ]
  refine wpAnyT_takePD (i := 2) (d := 12) (oi := _) (v := ?zv33) rfl rfl (by kernel_rfl) (fun _ _ _ h => h) (Or.inl ⟨by rfl, ?zy33⟩) (by assumption) ?zr33
  case zy33 => (intro w hSw; (try dsimp only at hSw); go_split_ands; go_simp; (try rw [if_pos (by omega)]); (try go_simp); try with_reducible rfl)
  simp only [List.setIfInBounds_toArray, List.set_cons_zero, List.set_cons_succ]
  refine wpAnyT_takeD (i := 3) (d := 13) (oi := _) (v := ?zv34) rfl rfl (by kernel_rfl) (fun _ _ _ h => h) (Or.inl ⟨by rfl, ?zy34⟩) (by assumption) ?zr34
  case zy34 => (intro w hSw; (try dsimp only at hSw); go_split_ands; go_simp; (try rw [if_pos (by omega)]); (try go_simp); try with_reducible rfl)
  simp only [List.setIfInBounds_toArray, List.set_cons_zero, List.set_cons_succ]
  refine wpAnyT_takePD (i := 4) (d := 14) (oi := _) (v := ?zv35) rfl rfl (by kernel_rfl) (fun _ _ _ h => h) (Or.inl ⟨by rfl, ?zy35⟩) (by assumption) ?zr35
  case zy35 => (intro w hSw; (try dsimp only at hSw); go_split_ands; go_simp; (try rw [if_pos (by omega)]); (try go_simp); try with_reducible rfl)
  simp only [List.setIfInBounds_toArray, List.set_cons_zero, List.set_cons_succ]
  refine wpAnyT_takeD (i := 5) (d := 15) (oi := _) (v := ?zv36) rfl rfl (by kernel_rfl) (fun _ _ _ h => h) (Or.inl ⟨by rfl, ?zy36⟩) (by assumption) ?zr36
  case zy36 => (intro w hSw; (try dsimp only at hSw); go_split_ands; go_simp; (try rw [if_pos (by omega)]); (try go_simp); try with_reducible rfl)
  simp only [List.setIfInBounds_toArray, List.set_cons_zero, List.set_cons_succ]
  refine wpAnyT_takePD (i := 6) (d := 16) (oi := _) (v := ?zv37) rfl rfl (by kernel_rfl) (fun _ _ _ h => h) (Or.inl ⟨by rfl, ?zy37⟩) (by assumption) ?zr37
  case zy37 => (intro w hSw; (try dsimp only at hSw); go_split_ands; go_simp; (try rw [if_pos (by omega)]); (try go_simp); try with_reducible rfl)
  simp only [List.setIfInBounds_toArray, List.set_cons_zero, List.set_cons_succ]
  refine wpAnyT_takeD (i := 7) (d := 17) (oi := _) (v := ?zv38) rfl rfl (by kernel_rfl) (fun _ _ _ h => h) (Or.inl ⟨by rfl, ?zy38⟩) (by assumption) ?zr38
  case zy38 => (intro w hSw; (try dsimp only at hSw); go_split_ands; go_simp; (try rw [if_pos (by omega)]); (try go_simp); try with_reducible rfl)
  simp only [List.setIfInBounds_toArray, List.set_cons_zero, List.set_cons_succ]
  refine wpAnyT_takePD (i := 8) (d := 18) (oi := _) (v := ?zv39) rfl rfl (by kernel_rfl) (fun _ _ _ h => h) (Or.inl ⟨by rfl, ?zy39⟩) (by assumption) ?zr39
  case zy39 => (intro w hSw; (try dsimp only at hSw); go_split_ands; go_simp; (try rw [if_pos (by omega)]); (try go_simp); try with_reducible rfl)
  simp only [List.setIfInBounds_toArray, List.set_cons_zero, List.set_cons_succ]
  refine wpAnyT_takeD (i := 9) (d := 19) (oi := _) (v := ?zv40) rfl rfl (by kernel_rfl) (fun _ _ _ h => h) (Or.inl ⟨by rfl, ?zy40⟩) (by assumption) ?zr40
  case zy40 => (intro w hSw; (try dsimp only at hSw); go_split_ands; go_simp; (try rw [if_pos (by omega)]); (try go_simp); try with_reducible rfl)
  simp only [List.setIfInBounds_toArray, List.set_cons_zero, List.set_cons_succ]
  refine wpAnyT_takePD (i := 11) (d := 21) (oi := _) (v := ?zv41) rfl rfl (by kernel_rfl) (fun _ _ _ h => h) (Or.inl ⟨by rfl, ?zy41⟩) (by assumption) ?zr41
  case zy41 => (intro w hSw; (try dsimp only at hSw); go_split_ands; go_simp; (try rw [if_pos (by omega)]); (try go_simp); try with_reducible rfl)
  simp only [List.setIfInBounds_toArray, List.set_cons_zero, List.set_cons_succ]
  refine wpAnyT_takePD (i := 12) (d := 22) (oi := _) (v := ?zv42) rfl rfl (by kernel_rfl) (fun _ _ _ h => h) (Or.inl ⟨by rfl, ?zy42⟩) (by assumption) ?zr42
  case zy42 => (intro w hSw; (try dsimp only at hSw); go_split_ands; go_simp; (try rw [if_pos (by omega)]); (try go_simp); try with_reducible rfl)
  simp only [List.setIfInBounds_toArray, List.set_cons_zero, List.set_cons_succ]
  refine wpAnyT_takePD (i := 13) (d := 23) (oi := _) (v := ?zv43) rfl rfl (by kernel_rfl) (fun _ _ _ h => h) (Or.inl ⟨by rfl, ?zy43⟩) (by assumption) ?zr43
  case zy43 => (intro w hSw; (try dsimp only at hSw); go_split_ands; go_simp; (try rw [if_pos (by omega)]); (try go_simp); try with_reducible rfl)
  simp only [List.setIfInBounds_toArray, List.set_cons_zero, List.set_cons_succ]
  refine wpAnyT_takeD (i := 14) (d := 24) (oi := _) (v := ?zv44) rfl rfl (by kernel_rfl) (fun _ _ _ h => h) (Or.inl ⟨by rfl, ?zy44⟩) (by assumption) ?zr44
  case zy44 => (intro w hSw; (try dsimp only at hSw); go_split_ands; go_simp; (try rw [if_pos (by omega)]); (try go_simp); try with_reducible rfl)
  simp only [List.setIfInBounds_toArray, List.set_cons_zero, List.set_cons_succ]
  refine wpAnyT_ready (rs := [10]) (by kernel_rfl) (by simp) (AllReadyT.cons rfl (fun K2 hK2 => ?_) AllReadyT.nil)
  go_simp
  have hA := alloc2_both w (xObj a) (.cells #[.int .i64 (a 0), .int .i64 (a 1), .int .i64 (a 2), .int .i64 (a 3), .int .i64 (a 4)] 3) 0
  have hA1 : RM0 a w B (fltObj kHas f N N (.slice none 0 0)) (((w.alloc (xObj a)).alloc (.cells #[.int .i64 (a 0), .int .i64 (a 1), .int .i64 (a 2), .int .i64 (a 3), .int .i64 (a 4)] 3)).drew) := ⟨(((Below.refl _ _).alloc (Nat.le_refl _) _).alloc (by simp) _).trans ⟨rfl, rfl, rfl, Nat.le_refl _, fun _ _ => rfl⟩, (Below.heap_alloc _ _ B (by rw [size_alloc]; omega)).trans HF.out, hA.1⟩
  have hA2 := five_cell hA.2 hf5
  obtain ⟨y0, y1, y2, y3, y4⟩ := xcells hA1.x
  have y5 := (block5 hA1.f).2.1
  have HA1 := Lib.hid hA1; have HA2 := Lib.hid hA2
  clear hA hA1 hA2
  refine hK2.out _ _ ⟨y0, y1, y2, y3, y4, y5⟩ (fun _ => ?_)
  clear y0 y1 y2 y3 y4 y5 x0 x1 x2 x3 x4 f0 f1 f2 f3 f4 hHeld HX HF
  refine wpAnyT_forget (fun W => RM0 a w B (fltObj kHas f N N (.slice none 0 0)) W ∧ W.cell? ⟨w.heap.size + 1, f, none⟩ = some (.int .i64 (a f))) ⟨HA1.out, HA2.out⟩ ?_
  rintro W ⟨hM, h5⟩
  clear HA1 HA2
  obtain ⟨f0, f1, f2, f3, f4, e0, e1, e2, e3, e4⟩ := block5 hM.f
  have f0l : W.cell? ⟨B, 0, none⟩ = some (.string ⟨#[104, 97, 115]⟩) := f0
  obtain ⟨x0, x1, x2, x3, x4⟩ := xcells hM.x
  have HM := Lib.hid hM
  clear hM f0
  refine wpAnyT_tail 15 (by simp) rfl (by simp) (by kernel_rfl) ?_
  simp only [List.drop_succ_cons, List.drop_zero]
  go_wp2_with fail
  go_loopg [6] 31 (fun g bv W' => W' = W ∧ ∃ k : Nat, bv = .int .i64 ((2 ^ k : Nat) : Int) ∧ k + g = 31 ∧ ∀ j, j < k → N.testBit j = true → (BitVec.ofInt 64 (a f)).toNat.testBit j = true)
  case atStart => exact ⟨rfl, 0, rfl, by omega, fun j h => by omega⟩
  case round =>
    obtain ⟨rfl, k, rfl, hkg, hno⟩ := hrel
    obtain ⟨p, hp⟩ : ∃ p, p = 2 ^ k := ⟨_, rfl⟩
    have hp0 : 0 < p := by rw [hp]; exact Nat.two_pow_pos k
    rw [← hp]
    have HNO := Lib.hid hno
    clear hno
    by_cases hle : p ≤ N
    · have hk30 : k < 30 := by
        rcases Nat.lt_or_ge k 30 with h | h
        · exact h
        · have : 2 ^ 30 ≤ 2 ^ k := Nat.pow_le_pow_right (by omega) h
          rw [← hp] at this; omega
      obtain ⟨n, rfl⟩ : ∃ n, gk = n + 1 := ⟨gk - 1, by omega⟩
      have hd : (((N : Int) / (p : Int) % 2) == 1) = N.testBit k := by rw [hp]; exact bit_div
      have hb : (bits .and .i64 (a f) (p : Int) == 0) = !(BitVec.ofInt 64 (a f)).toNat.testBit k := by rw [hp]; exact bit_and (by rw [← hp]; omega)
      have hz : ((p : Int) == 0) = false := by simp; omega
      have hq0 : (0 : Int) ≤ (N : Int) / (p : Int) := Int.ediv_nonneg (by omega) (by omega)
      have hq1 : (N : Int) / (p : Int) ≤ 1000000000 := Int.le_trans (Int.ediv_le_self _ (by omega)) (by omega)
      have HP := Lib.hid hp
      have hnx : ((p : Int) * 2) = ((2 ^ (k + 1) : Nat) : Int) := by rw [Nat.pow_succ, ← hp]; omega
      have HNX := Lib.hid hnx
      clear hp hnx
      cases ht : N.testBit k with
      | false =>
        rw [ht] at hd
        clear hb
        have HT := Lib.hid ht
        clear ht
        go_wp2_with fail
        go_roundg n
        case measure => omega
        case rel =>
          refine ⟨rfl, k + 1, congrArg (Value.int .i64) HNX.out, by omega, fun j hj hj2 => ?_⟩
          rcases Nat.lt_or_ge j k with h | h
          · exact HNO.out j h hj2
          · obtain rfl : j = k := by omega
            rw [HT.out] at hj2; cases hj2
      | true =>
        rw [ht] at hd
        have HT := Lib.hid ht
        clear ht
        cases hv : (BitVec.ofInt 64 (a f)).toNat.testBit k with
        | false =>
          rw [hv] at hb
          have hb' : (bits .and .i64 (a f) (p : Int) == 0) = true := hb
          have HV := Lib.hid hv
          clear hv hb
          go_wp2_with fail
          go_ret
          refine ⟨ret_bool ?_, HM.out.b⟩
          symm
          have hne : ¬ band (a f) N = true := fun h => by
            have := (band_iff (by omega) (by omega)).1 h k (by rw [Int.toNat_natCast]; exact HT.out)
            rw [HV.out] at this; cases this
          simpa using hne
        | true =>
          rw [hv] at hb
          have hb' : (bits .and .i64 (a f) (p : Int) == 0) = false := hb
          have HV := Lib.hid hv
          clear hv hb
          go_wp2_with fail
          go_roundg n
          case measure => omega
          case rel =>
            refine ⟨rfl, k + 1, congrArg (Value.int .i64) HNX.out, by omega, fun j hj hj2 => ?_⟩
            rcases Nat.lt_or_ge j k with h | h
            · exact HNO.out j h hj2
            · obtain rfl : j = k := by omega
              exact HV.out
    · have HP := Lib.hid hp
      clear hp
      go_wp2_with fail
      go_ret
      refine ⟨ret_bool ?_, HM.out.b⟩
      symm
      refine (band_iff (by omega) (by omega)).2 fun j hj => ?_
      rw [Int.toNat_natCast] at hj
      rcases Nat.lt_or_ge j k with h | h
      · exact HNO.out j h hj
      · have h1 : N < 2 ^ j := Nat.lt_of_lt_of_le (by have := HP.out; omega) (Nat.pow_le_pow_right (by omega) h)
        rw [Nat.testBit_lt_two_pow h1] at hj; cases hj
set_option maxHeartbeats 1000000 in
set_option maxRecDepth 100000 in
theorem rmeant_not {a : Nat → Int} {B g c k : Nat} {b : Bool} {w : World} (h : w.heap[B]? = some (fltObj kNot 0 0 0 (.slice (some ⟨g, 0, none⟩) 1 c))) (hgc : w.cell? ⟨g, 0, none⟩ = some (ptrP k))
    (hk : ∀ W, Below w.heap.size w W → Calls Tryd.prog 7 #[ptrP k, xv a] W (RMP a W b)) :
    Calls Tryd.prog 7 #[ptrP B, xv a] w (RMP a w (!b)) := by
  have hf5 : (0 : Nat) < 5 := by omega
  have HK := Lib.hid hk; have HGC := Lib.hid hgc
  clear hk hgc
  unfold xv
  have H := Lib.hid h
  have hBl := (Array.getElem?_eq_some_iff.1 h).1
  clear h
  go_enter Tryd.func7, Tryd.ntmps7
  go_wp2_with fail
  have hX := heap_alloc_new w (xObj a)
  have hF := (Below.heap_alloc w (xObj a) B hBl).trans H.out
  obtain ⟨x0, x1, x2, x3, x4⟩ := xcells hX
  obtain ⟨f0, f1, f2, f3, f4, e0, e1, e2, e3, e4⟩ := block5 hF
  have HX := Lib.hid hX; have HF := Lib.hid hF
  clear hX hF e0 e1 e2 e3 e4
  refine wp_region_late (fun W => W.cell? ⟨w.heap.size, 0, none⟩ = some (.int .i64 (a 0)) ∧ W.cell? ⟨w.heap.size, 1, none⟩ = some (.int .i64 (a 1)) ∧ W.cell? ⟨w.heap.size, 2, none⟩ = some (.int .i64 (a 2)) ∧ W.cell? ⟨w.heap.size, 3, none⟩ = some (.int .i64 (a 3)) ∧ W.cell? ⟨w.heap.size, 4, none⟩ = some (.int .i64 (a 4)) ∧ W.cell? ⟨B, 1, none⟩ = some (.int .i64 0)) [15] rfl ⟨x0, x1, x2, x3, x4, f1⟩ (fun hHeld => ?_)
  refine wpAnyT_takePD (i := 0) (d := 10) (oi := _) (v := ?zv46) rfl rfl (by kernel_rfl) (fun _ _ _ h => h) (Or.inl ⟨by rfl, ?zy46⟩) (by assumption) ?zr46
  case zy46 => (intro w hSw; (try dsimp only at hSw); go_split_ands; go_simp; (try rw [if_pos (by omega)]); (try go_simp); try with_reducible rfl)
  simp only [List.setIfInBounds_toArray, List.set_cons_zero, List.set_cons_succ]
  refine wpAnyT_takeD (i := 1) (d := 11) (oi := _) (v := ?zv47) rfl rfl (by kernel_rfl) (fun _ _ _ h => h) (Or.inl ⟨by rfl, ?zy47⟩) (by assumption) ?zr47
  case zy47 => (intro w hSw; (try dsimp only at hSw); go_split_ands; go_simp; (try rw [if_pos (by omega)]); (try go_simp); try with_reducible rfl)
  simp only [List.setIfInBounds_toArray, List.set_cons_zero, List.set_cons_succ]
  refine wpAnyT_takePD (i := 2) (d := 12) (oi := _) (v := ?zv48) rfl rfl (by kernel_rfl) (fun _ _ _ h => h) (Or.inl ⟨by rfl, ?zy48⟩) (by assumption) ?zr48
  case zy48 => (intro w hSw; (try dsimp only at hSw); go_split_ands; go_simp; (try rw [if_pos (by omega)]); (try go_simp); try with_reducible rfl)
  simp only [List.setIfInBounds_toArray, List.set_cons_zero, List.set_cons_succ]
  refine wpAnyT_takeD (i := 3) (d := 13) (oi := _) (v := ?zv49) rfl rfl (by kernel_rfl) (fun _ _ _ h => h) (Or.inl ⟨by rfl, ?zy49⟩) (by assumption) ?zr49
  case zy49 => (intro w hSw; (try dsimp only at hSw); go_split_ands; go_simp; (try rw [if_pos (by omega)]); (try go_simp); try with_reducible rfl)
  simp only [List.setIfInBounds_toArray, List.set_cons_zero, List.set_cons_succ]
  refine wpAnyT_takePD (i := 4) (d := 14) (oi := _) (v := ?zv50) rfl rfl (by kernel_rfl) (fun _ _ _ h => h) (Or.inl ⟨by rfl, ?zy50⟩) (by assumption) ?zr50
  case zy50 => (intro w hSw; (try dsimp only at hSw); go_split_ands; go_simp; (try rw [if_pos (by omega)]); (try go_simp); try with_reducible rfl)
  simp only [List.setIfInBounds_toArray, List.set_cons_zero, List.set_cons_succ]
  refine wpAnyT_takeD (i := 5) (d := 15) (oi := _) (v := ?zv51) rfl rfl (by kernel_rfl) (fun _ _ _ h => h) (Or.inl ⟨by rfl, ?zy51⟩) (by assumption) ?zr51
  case zy51 => (intro w hSw; (try dsimp only at hSw); go_split_ands; go_simp; (try rw [if_pos (by omega)]); (try go_simp); try with_reducible rfl)
  simp only [List.setIfInBounds_toArray, List.set_cons_zero, List.set_cons_succ]
  refine wpAnyT_takePD (i := 6) (d := 16) (oi := _) (v := ?zv52) rfl rfl (by kernel_rfl) (fun _ _ _ h => h) (Or.inl ⟨by rfl, ?zy52⟩) (by assumption) ?zr52
  case zy52 => (intro w hSw; (try dsimp only at hSw); go_split_ands; go_simp; (try rw [if_pos (by omega)]); (try go_simp); try with_reducible rfl)
  simp only [List.setIfInBounds_toArray, List.set_cons_zero, List.set_cons_succ]
  refine wpAnyT_takeD (i := 7) (d := 17) (oi := _) (v := ?zv53) rfl rfl (by kernel_rfl) (fun _ _ _ h => h) (Or.inl ⟨by rfl, ?zy53⟩) (by assumption) ?zr53
  case zy53 => (intro w hSw; (try dsimp only at hSw); go_split_ands; go_simp; (try rw [if_pos (by omega)]); (try go_simp); try with_reducible rfl)
  simp only [List.setIfInBounds_toArray, List.set_cons_zero, List.set_cons_succ]
  refine wpAnyT_takePD (i := 8) (d := 18) (oi := _) (v := ?zv54) rfl rfl (by kernel_rfl) (fun _ _ _ h => h) (Or.inl ⟨by rfl, ?zy54⟩) (by assumption) ?zr54
  case zy54 => (intro w hSw; (try dsimp only at hSw); go_split_ands; go_simp; (try rw [if_pos (by omega)]); (try go_simp); try with_reducible rfl)
  simp only [List.setIfInBounds_toArray, List.set_cons_zero, List.set_cons_succ]
  refine wpAnyT_takeD (i := 9) (d := 19) (oi := _) (v := ?zv55) rfl rfl (by kernel_rfl) (fun _ _ _ h => h) (Or.inl ⟨by rfl, ?zy55⟩) (by assumption) ?zr55
  case zy55 => (intro w hSw; (try dsimp only at hSw); go_split_ands; go_simp; (try rw [if_pos (by omega)]); (try go_simp); try with_reducible rfl)
  simp only [List.setIfInBounds_toArray, List.set_cons_zero, List.set_cons_succ]
  refine wpAnyT_takePD (i := 11) (d := 21) (oi := _) (v := ?zv56) rfl rfl (by kernel_rfl) (fun _ _ _ h => h) (Or.inl ⟨by rfl, ?zy56⟩) (by assumption) ?zr56
  case zy56 => (intro w hSw; (try dsimp only at hSw); go_split_ands; go_simp; (try rw [if_pos (by omega)]); (try go_simp); try with_reducible rfl)
  simp only [List.setIfInBounds_toArray, List.set_cons_zero, List.set_cons_succ]
  refine wpAnyT_takePD (i := 12) (d := 22) (oi := _) (v := ?zv57) rfl rfl (by kernel_rfl) (fun _ _ _ h => h) (Or.inl ⟨by rfl, ?zy57⟩) (by assumption) ?zr57
  case zy57 => (intro w hSw; (try dsimp only at hSw); go_split_ands; go_simp; (try rw [if_pos (by omega)]); (try go_simp); try with_reducible rfl)
  simp only [List.setIfInBounds_toArray, List.set_cons_zero, List.set_cons_succ]
  refine wpAnyT_takePD (i := 13) (d := 23) (oi := _) (v := ?zv58) rfl rfl (by kernel_rfl) (fun _ _ _ h => h) (Or.inl ⟨by rfl, ?zy58⟩) (by assumption) ?zr58
  case zy58 => (intro w hSw; (try dsimp only at hSw); go_split_ands; go_simp; (try rw [if_pos (by omega)]); (try go_simp); try with_reducible rfl)
  simp only [List.setIfInBounds_toArray, List.set_cons_zero, List.set_cons_succ]
  refine wpAnyT_takeD (i := 14) (d := 24) (oi := _) (v := ?zv59) rfl rfl (by kernel_rfl) (fun _ _ _ h => h) (Or.inl ⟨by rfl, ?zy59⟩) (by assumption) ?zr59
  case zy59 => (intro w hSw; (try dsimp only at hSw); go_split_ands; go_simp; (try rw [if_pos (by omega)]); (try go_simp); try with_reducible rfl)
  simp only [List.setIfInBounds_toArray, List.set_cons_zero, List.set_cons_succ]
  refine wpAnyT_ready (rs := [10]) (by kernel_rfl) (by simp) (AllReadyT.cons rfl (fun K2 hK2 => ?_) AllReadyT.nil)
  go_simp
  have hA := alloc2_both w (xObj a) (.cells #[.int .i64 (a 0), .int .i64 (a 1), .int .i64 (a 2), .int .i64 (a 3), .int .i64 (a 4)] 3) 0
  have hA1 : RM0 a w B (fltObj kNot 0 0 0 (.slice (some ⟨g, 0, none⟩) 1 c)) (((w.alloc (xObj a)).alloc (.cells #[.int .i64 (a 0), .int .i64 (a 1), .int .i64 (a 2), .int .i64 (a 3), .int .i64 (a 4)] 3)).drew) := ⟨(((Below.refl _ _).alloc (Nat.le_refl _) _).alloc (by simp) _).trans ⟨rfl, rfl, rfl, Nat.le_refl _, fun _ _ => rfl⟩, (Below.heap_alloc _ _ B (by rw [size_alloc]; omega)).trans HF.out, hA.1⟩
  have hA2 := five_cell hA.2 hf5
  obtain ⟨y0, y1, y2, y3, y4⟩ := xcells hA1.x
  have y5 := (block5 hA1.f).2.1
  have HA1 := Lib.hid hA1; have HA2 := Lib.hid hA2
  clear hA hA1 hA2
  refine hK2.out _ _ ⟨y0, y1, y2, y3, y4, y5⟩ (fun _ => ?_)
  clear y0 y1 y2 y3 y4 y5 x0 x1 x2 x3 x4 f0 f1 f2 f3 f4 hHeld HX HF
  refine wpAnyT_forget (fun W => RM0 a w B (fltObj kNot 0 0 0 (.slice (some ⟨g, 0, none⟩) 1 c)) W ∧ W.cell? ⟨w.heap.size + 1, 0, none⟩ = some (.int .i64 (a 0))) ⟨HA1.out, HA2.out⟩ ?_
  rintro W ⟨hM, h5⟩
  clear HA1 HA2
  obtain ⟨f0, f1, f2, f3, f4, e0, e1, e2, e3, e4⟩ := block5 hM.f
  have f0l : W.cell? ⟨B, 0, none⟩ = some (.string ⟨#[110, 111, 116]⟩) := f0
  obtain ⟨x0, x1, x2, x3, x4⟩ := xcells hM.x
  have HM := Lib.hid hM
  clear hM f0
  refine wpAnyT_tail 15 (by simp) rfl (by simp) (by kernel_rfl) ?_
  simp only [List.drop_succ_cons, List.drop_zero]
  have hg2 := below_cell HM.out.b HGC.out (World.block_lt_of_cell? w _ HGC.out)
  go_wp2_with fail
  refine wp_region_late (fun W => W.cell? ⟨w.heap.size, 0, none⟩ = some (.int .i64 (a 0)) ∧ W.cell? ⟨w.heap.size, 1, none⟩ = some (.int .i64 (a 1)) ∧ W.cell? ⟨w.heap.size, 2, none⟩ = some (.int .i64 (a 2)) ∧ W.cell? ⟨w.heap.size, 3, none⟩ = some (.int .i64 (a 3)) ∧ W.cell? ⟨w.heap.size, 4, none⟩ = some (.int .i64 (a 4)) ∧ W.cell? ⟨B, 4, none⟩ = some (.slice (some ⟨g, 0, none⟩) 1 c) ∧ W.cell? ⟨g, 0, none⟩ = some (ptrP k)) [7] rfl ⟨x0, x1, x2, x3, x4, f4, hg2⟩ (fun hHeld => ?_)
  refine wpAnyT_takePD (i := 0) (d := 75) (oi := _) (v := ?zv61) rfl rfl (by kernel_rfl) (fun _ _ _ h => h) (Or.inl ⟨by rfl, ?zy61⟩) (by assumption) ?zr61
  case zy61 => (intro w hSw; (try dsimp only at hSw); go_split_ands; go_simp; (try rw [if_pos (by omega)]); (try go_simp); try with_reducible rfl)
  simp only [List.setIfInBounds_toArray, List.set_cons_zero, List.set_cons_succ]
  refine wpAnyT_takePD (i := 1) (d := 76) (oi := _) (v := ?zv62) rfl rfl (by kernel_rfl) (fun _ _ _ h => h) (Or.inl ⟨by rfl, ?zy62⟩) (by assumption) ?zr62
  case zy62 => (intro w hSw; (try dsimp only at hSw); go_split_ands; go_simp; (try rw [if_pos (by omega)]); (try go_simp); try with_reducible rfl)
  simp only [List.setIfInBounds_toArray, List.set_cons_zero, List.set_cons_succ]
  refine wpAnyT_takePD (i := 2) (d := 77) (oi := _) (v := ?zv63) rfl rfl (by kernel_rfl) (fun _ _ _ h => h) (Or.inl ⟨by rfl, ?zy63⟩) (by assumption) ?zr63
  case zy63 => (intro w hSw; (try dsimp only at hSw); go_split_ands; go_simp; (try rw [if_pos (by omega)]); (try go_simp); try with_reducible rfl)
  simp only [List.setIfInBounds_toArray, List.set_cons_zero, List.set_cons_succ]
  refine wpAnyT_takeD (i := 3) (d := 78) (oi := _) (v := ?zv64) rfl rfl (by kernel_rfl) (fun _ _ _ h => h) (Or.inl ⟨by rfl, ?zy64⟩) (by assumption) ?zr64
  case zy64 => (intro w hSw; (try dsimp only at hSw); go_split_ands; go_simp; (try rw [if_pos (by omega)]); (try go_simp); try with_reducible rfl)
  simp only [List.setIfInBounds_toArray, List.set_cons_zero, List.set_cons_succ]
  refine wpAnyT_takePD (i := 4) (d := 79) (oi := _) (v := ?zv65) rfl rfl (by kernel_rfl) (fun _ _ _ h => h) (Or.inl ⟨by rfl, ?zy65⟩) (by assumption) ?zr65
  case zy65 => (intro w hSw; (try dsimp only at hSw); go_split_ands; go_simp; (try rw [if_pos (by omega)]); (try go_simp); try with_reducible rfl)
  simp only [List.setIfInBounds_toArray, List.set_cons_zero, List.set_cons_succ]
  refine wpAnyT_takeD (i := 5) (d := 80) (oi := _) (v := ?zv66) rfl rfl (by kernel_rfl) (fun _ _ _ h => h) (Or.inl ⟨by rfl, ?zy66⟩) (by assumption) ?zr66
  case zy66 => (intro w hSw; (try dsimp only at hSw); go_split_ands; go_simp; (try rw [if_pos (by omega)]); (try go_simp); try with_reducible rfl)
  simp only [List.setIfInBounds_toArray, List.set_cons_zero, List.set_cons_succ]
  refine wpAnyT_takeD (i := 6) (d := 81) (oi := _) (v := ?zv67) rfl rfl (by kernel_rfl) (fun _ _ _ h => h) (Or.inl ⟨by rfl, ?zy67⟩) (by assumption) ?zr67
  case zy67 => (intro w hSw; (try dsimp only at hSw); go_split_ands; go_simp; (try rw [if_pos (by omega)]); (try go_simp); try with_reducible rfl)
  simp only [List.setIfInBounds_toArray, List.set_cons_zero, List.set_cons_succ]
  refine wpAnyT_tail 7 (by simp) rfl (by simp) (by kernel_rfl) ?_
  simp only [List.drop_succ_cons, List.drop_zero]
  have HBW := Lib.hid (HM.out.b.trans (⟨rfl, rfl, rfl, Nat.le_refl _, fun _ _ => rfl⟩ : Below w.heap.size W W.drew))
  go_wp2_with (go_at_call 7; refine (HK.out _ HBW.out).mono ?_; rintro r w2 ⟨rfl, hb2⟩)
  go_ret
  exact ⟨rfl, HBW.out.trans (hb2.mono HBW.out.size)⟩
/-! ### several -/
def cntB (B : Nat → Bool) (k : Nat) : Nat := (List.range k).countP B
theorem cntB_succ (B : Nat → Bool) (k : Nat) : cntB B (k + 1) = cntB B k + if B k then 1 else 0 := by
  unfold cntB
  rw [List.range_succ, List.countP_append, List.countP_singleton]
theorem cntB_le (B : Nat → Bool) (k : Nat) : cntB B k ≤ k := by
  have := List.countP_le_length (p := B) (l := List.range k)
  rwa [List.length_range] at this
theorem cnt_or {v : Nat → Int} {bd : Int → Int → Bool} {l : List Ast} : decide (0 < cntB (mAt v bd l) l.length) = meant v bd (.several true l) := by
  unfold meant
  rw [if_pos rfl, meantAny_range, Bool.eq_iff_iff, decide_eq_true_eq, List.any_eq_true]
  unfold cntB
  constructor
  · intro h
    have h1 : 0 < (List.range l.length).countP (mAt v bd l) := by omega
    obtain ⟨x, h2, h3⟩ := List.countP_pos_iff.1 h1
    exact ⟨x, h2, h3⟩
  · rintro ⟨x, h2, h3⟩
    have : 0 < (List.range l.length).countP (mAt v bd l) := List.countP_pos_iff.2 ⟨x, h2, h3⟩
    omega
theorem cnt_and {v : Nat → Int} {bd : Int → Int → Bool} {l : List Ast} : ((cntB (mAt v bd l) l.length : Int) == (l.length : Int)) = meant v bd (.several false l) := by
  unfold meant
  rw [if_neg (by simp), meantAll_range, Bool.eq_iff_iff, beq_iff_eq, List.all_eq_true]
  unfold cntB
  constructor
  · intro h
    have h1 : (List.range l.length).countP (mAt v bd l) = (List.range l.length).length := by rw [List.length_range]; omega
    exact List.countP_eq_length.1 h1
  · intro h
    have := List.countP_eq_length.2 h
    rw [List.length_range] at this
    omega
set_option maxHeartbeats 1000000 in
set_option maxRecDepth 100000 in
theorem rmeant_severalTrue {a : Nat → Int} {B g c n : Nat} {Bf : Nat → Bool} {w : World} (hn : n ≤ 200000) (h : w.heap[B]? = some (fltObj (if true then kOr else kAnd) 0 0 0 (.slice (some ⟨g, 0, none⟩) n c)))
    (hk : ∀ W, Below w.heap.size w W → ∀ j, j < n → ∃ k, W.cell? ⟨g, j, none⟩ = some (ptrP k) ∧ Calls Tryd.prog 7 #[ptrP k, xv a] W (RMP a W (Bf j))) :
    Calls Tryd.prog 7 #[ptrP B, xv a] w (RMP a w (decide (0 < cntB Bf n))) := by
  have h : w.heap[B]? = some (fltObj kOr 0 0 0 (.slice (some ⟨g, 0, none⟩) n c)) := h
  have hf5 : (0 : Nat) < 5 := by omega
  have HK := Lib.hid hk
  clear hk
  unfold xv
  have H := Lib.hid h
  have hBl := (Array.getElem?_eq_some_iff.1 h).1
  clear h
  go_enter Tryd.func7, Tryd.ntmps7
  go_wp2_with fail
  have hX := heap_alloc_new w (xObj a)
  have hF := (Below.heap_alloc w (xObj a) B hBl).trans H.out
  obtain ⟨x0, x1, x2, x3, x4⟩ := xcells hX
  obtain ⟨f0, f1, f2, f3, f4, e0, e1, e2, e3, e4⟩ := block5 hF
  have HX := Lib.hid hX; have HF := Lib.hid hF
  clear hX hF e0 e1 e2 e3 e4
  refine wp_region_late (fun W => W.cell? ⟨w.heap.size, 0, none⟩ = some (.int .i64 (a 0)) ∧ W.cell? ⟨w.heap.size, 1, none⟩ = some (.int .i64 (a 1)) ∧ W.cell? ⟨w.heap.size, 2, none⟩ = some (.int .i64 (a 2)) ∧ W.cell? ⟨w.heap.size, 3, none⟩ = some (.int .i64 (a 3)) ∧ W.cell? ⟨w.heap.size, 4, none⟩ = some (.int .i64 (a 4)) ∧ W.cell? ⟨B, 1, none⟩ = some (.int .i64 0)) [15] rfl ⟨x0, x1, x2, x3, x4, f1⟩ (fun hHeld => ?_)
  refine wpAnyT_takePD (i := 0) (d := 10) (oi := _) (v := ?zv69) rfl rfl (by kernel_rfl) (fun _ _ _ h => h) (Or.inl ⟨by rfl, ?zy69⟩) (by assumption) ?zr69
  case zy69 => (intro w hSw; (try dsimp only at hSw); go_split_ands; go_simp; (try rw [if_pos (by omega)]); (try go_simp); try with_reducible rfl)
  simp only [List.setIfInBounds_toArray, List.set_cons_zero, List.set_cons_succ]
  refine wpAnyT_takeD (i := 1) (d := 11) (oi := _) (v := ?zv70) rfl rfl (by kernel_rfl) (fun _ _ _ h => h) (Or.inl ⟨by rfl, ?zy70⟩) (by assumption) ?zr70
  case zy70 => (intro w hSw; (try dsimp only at hSw); go_split_ands; go_simp; (try rw [if_pos (by omega)]); (try go_simp); try with_reducible rfl)
  simp only [List.setIfInBounds_toArray, List.set_cons_zero, List.set_cons_succ]
  refine wpAnyT_takePD (i := 2) (d := 12) (oi := _) (v := ?zv71) rfl rfl (by kernel_rfl) (fun _ _ _ h => h) (Or.inl ⟨by rfl, ?zy71⟩) (by assumption) ?zr71
  case zy71 => (intro w hSw; (try dsimp only at hSw); go_split_ands; go_simp; (try rw [if_pos (by omega)]); (try go_simp); try with_reducible rfl)
  simp only [List.setIfInBounds_toArray, List.set_cons_zero, List.set_cons_succ]
  refine wpAnyT_takeD (i := 3) (d := 13) (oi := _) (v := ?zv72) rfl rfl (by kernel_rfl) (fun _ _ _ h => h) (Or.inl ⟨by rfl, ?zy72⟩) (by assumption) ?zr72
  case zy72 => (intro w hSw; (try dsimp only at hSw); go_split_ands; go_simp; (try rw [if_pos (by omega)]); (try go_simp); try with_reducible rfl)
  simp only [List.setIfInBounds_toArray, List.set_cons_zero, List.set_cons_succ]
  refine wpAnyT_takePD (i := 4) (d := 14) (oi := _) (v := ?zv73) rfl rfl (by kernel_rfl) (fun _ _ _ h => h) (Or.inl ⟨by rfl, ?zy73⟩) (by assumption) ?zr73
  case zy73 => (intro w hSw; (try dsimp only at hSw); go_split_ands; go_simp; (try rw [if_pos (by omega)]); (try go_simp); try with_reducible rfl)
  simp only [List.setIfInBounds_toArray, List.set_cons_zero, List.set_cons_succ]
  refine wpAnyT_takeD (i := 5) (d := 15) (oi := _) (v := ?zv74) rfl rfl (by kernel_rfl) (fun _ _ _ h => h) (Or.inl ⟨by rfl, ?zy74⟩) (by assumption) ?zr74
  case zy74 => (intro w hSw; (try dsimp only at hSw); go_split_ands; go_simp; (try rw [if_pos (by omega)]); (try go_simp); try with_reducible rfl)
  simp only [List.setIfInBounds_toArray, List.set_cons_zero, List.set_cons_succ]
  refine wpAnyT_takePD (i := 6) (d := 16) (oi := _) (v := ?zv75) rfl rfl (by kernel_rfl) (fun _ _ _ h => h) (Or.inl ⟨by rfl, ?zy75⟩) (by assumption) ?zr75
  case zy75 => (intro w hSw; (try dsimp only at hSw); go_split_ands; go_simp; (try rw [if_pos (by omega)]); (try go_simp); try with_reducible rfl)
  simp only [List.setIfInBounds_toArray, List.set_cons_zero, List.set_cons_succ]
  refine wpAnyT_takeD (i := 7) (d := 17) (oi := _) (v := ?zv76) rfl rfl (by kernel_rfl) (fun _ _ _ h => h) (Or.inl ⟨by rfl, ?zy76⟩) (by assumption) ?zr76
  case zy76 => (intro w hSw; (try dsimp only at hSw); go_split_ands; go_simp; (try rw [if_pos (by omega)]); (try go_simp); try with_reducible rfl)
  simp only [List.setIfInBounds_toArray, List.set_cons_zero, List.set_cons_succ]
  refine wpAnyT_takePD (i := 8) (d := 18) (oi := _) (v := ?zv77) rfl rfl (by kernel_rfl) (fun _ _ _ h => h) (Or.inl ⟨by rfl, ?zy77⟩) (by assumption) ?zr77
  case zy77 => (intro w hSw; (try dsimp only at hSw); go_split_ands; go_simp; (try rw [if_pos (by omega)]); (try go_simp); try with_reducible rfl)
  simp only [List.setIfInBounds_toArray, List.set_cons_zero, List.set_cons_succ]
  refine wpAnyT_takeD (i := 9) (d := 19) (oi := _) (v := ?zv78) rfl rfl (by kernel_rfl) (fun _ _ _ h => h) (Or.inl ⟨by rfl, ?zy78⟩) (by assumption) ?zr78
  case zy78 => (intro w hSw; (try dsimp only at hSw); go_split_ands; go_simp; (try rw [if_pos (by omega)]); (try go_simp); try with_reducible rfl)
  simp only [List.setIfInBounds_toArray, List.set_cons_zero, List.set_cons_succ]
  refine wpAnyT_takePD (i := 11) (d := 21) (oi := _) (v := ?zv79) rfl rfl (by kernel_rfl) (fun _ _ _ h => h) (Or.inl ⟨by rfl, ?zy79⟩) (by assumption) ?zr79
  case zy79 => (intro w hSw; (try dsimp only at hSw); go_split_ands; go_simp; (try rw [if_pos (by omega)]); (try go_simp); try with_reducible rfl)
  simp only [List.setIfInBounds_toArray, List.set_cons_zero, List.set_cons_succ]
  refine wpAnyT_takePD (i := 12) (d := 22) (oi := _) (v := ?zv80) rfl rfl (by kernel_rfl) (fun _ _ _ h => h) (Or.inl ⟨by rfl, ?zy80⟩) (by assumption) ?zr80
  case zy80 => (intro w hSw; (try dsimp only at hSw); go_split_ands; go_simp; (try rw [if_pos (by omega)]); (try go_simp); try with_reducible rfl)
  simp only [List.setIfInBounds_toArray, List.set_cons_zero, List.set_cons_succ]
  refine wpAnyT_takePD (i := 13) (d := 23) (oi := _) (v := ?zv81) rfl rfl (by kernel_rfl) (fun _ _ _ h => h) (Or.inl ⟨by rfl, ?zy81⟩) (by assumption) ?zr81
  case zy81 => (intro w hSw; (try dsimp only at hSw); go_split_ands; go_simp; (try rw [if_pos (by omega)]); (try go_simp); try with_reducible rfl)
  simp only [List.setIfInBounds_toArray, List.set_cons_zero, List.set_cons_succ]
  refine wpAnyT_takeD (i := 14) (d := 24) (oi := _) (v := ?zv82) rfl rfl (by kernel_rfl) (fun _ _ _ h => h) (Or.inl ⟨by rfl, ?zy82⟩) (by assumption) ?zr82
  case zy82 => (intro w hSw; (try dsimp only at hSw); go_split_ands; go_simp; (try rw [if_pos (by omega)]); (try go_simp); try with_reducible rfl)
  simp only [List.setIfInBounds_toArray, List.set_cons_zero, List.set_cons_succ]
  refine wpAnyT_ready (rs := [10]) (by kernel_rfl) (by simp) (AllReadyT.cons rfl (fun K2 hK2 => ?_) AllReadyT.nil)
  go_simp
  have hA := alloc2_both w (xObj a) (.cells #[.int .i64 (a 0), .int .i64 (a 1), .int .i64 (a 2), .int .i64 (a 3), .int .i64 (a 4)] 3) 0
  have hA1 : RM0 a w B (fltObj kOr 0 0 0 (.slice (some ⟨g, 0, none⟩) n c)) (((w.alloc (xObj a)).alloc (.cells #[.int .i64 (a 0), .int .i64 (a 1), .int .i64 (a 2), .int .i64 (a 3), .int .i64 (a 4)] 3)).drew) := ⟨(((Below.refl _ _).alloc (Nat.le_refl _) _).alloc (by simp) _).trans ⟨rfl, rfl, rfl, Nat.le_refl _, fun _ _ => rfl⟩, (Below.heap_alloc _ _ B (by rw [size_alloc]; omega)).trans HF.out, hA.1⟩
  have hA2 := five_cell hA.2 hf5
  obtain ⟨y0, y1, y2, y3, y4⟩ := xcells hA1.x
  have y5 := (block5 hA1.f).2.1
  have HA1 := Lib.hid hA1; have HA2 := Lib.hid hA2
  clear hA hA1 hA2
  refine hK2.out _ _ ⟨y0, y1, y2, y3, y4, y5⟩ (fun _ => ?_)
  clear y0 y1 y2 y3 y4 y5 x0 x1 x2 x3 x4 f0 f1 f2 f3 f4 hHeld HX HF
  refine wpAnyT_forget (fun W => RM0 a w B (fltObj kOr 0 0 0 (.slice (some ⟨g, 0, none⟩) n c)) W ∧ W.cell? ⟨w.heap.size + 1, 0, none⟩ = some (.int .i64 (a 0))) ⟨HA1.out, HA2.out⟩ ?_
  rintro W ⟨hM, h5⟩
  clear HA1 HA2
  obtain ⟨f0, f1, f2, f3, f4, e0, e1, e2, e3, e4⟩ := block5 hM.f
  have f0l : W.cell? ⟨B, 0, none⟩ = some (.string ⟨#[111, 114]⟩) := f0
  obtain ⟨x0, x1, x2, x3, x4⟩ := xcells hM.x
  have HM := Lib.hid hM
  clear hM f0
  refine wpAnyT_tail 15 (by simp) rfl (by simp) (by kernel_rfl) ?_
  simp only [List.drop_succ_cons, List.drop_zero]
  go_wp2_with fail
  go_loopg [7, 89] n (fun gk cv kv W' => RM0 a w B (fltObj kOr 0 0 0 (.slice (some ⟨g, 0, none⟩) n c)) W' ∧ ∃ k : Nat, kv = .int .i64 k ∧ cv = .int .i64 (cntB Bf k) ∧ k + gk = n)
  case atStart => exact ⟨HM.out, 0, rfl, rfl, by omega⟩
  case round =>
    obtain ⟨hM, k, rfl, rfl, hkg⟩ := hrel
    have HM2 := Lib.hid hM
    clear hM f0l f1 f2 f3 f4 x0 x1 x2 x3 x4
    obtain ⟨f0, f1, f2, f3, f4, e0, e1, e2, e3, e4⟩ := block5 HM2.out.f
    have f0l : wr.cell? ⟨B, 0, none⟩ = some (.string ⟨#[111, 114]⟩) := f0
    obtain ⟨x0, x1, x2, x3, x4⟩ := xcells HM2.out.x
    have hcb := cntB_le Bf k
    clear f0 e0 e1 e2 e3 e4
    by_cases hlt : k < n
    · obtain ⟨m, rfl⟩ : ∃ m, gk = m + 1 := ⟨gk - 1, by omega⟩
      obtain ⟨kb, hc, hcall⟩ := HK.out wr HM2.out.b k hlt
      have HCALL := Lib.hid hcall
      have hcs := cntB_succ Bf k
      clear hcall
      cases hb : Bf k with
      | false =>
        rw [hb] at hcs HCALL
        have hcs' : cntB Bf (k + 1) = cntB Bf k := hcs
        have HCS := Lib.hid hcs'
        clear hcs hcs' hb
        go_wp2_with (go_at_call 7; refine HCALL.out.mono ?_; rintro r w2 ⟨rfl, hb2⟩)
        go_roundg m
        case measure => omega
        case rel =>
          have hl1 := (Array.getElem?_eq_some_iff.1 HM2.out.f).1
          have hl2 := (Array.getElem?_eq_some_iff.1 HM2.out.x).1
          exact ⟨⟨HM2.out.b.trans (hb2.mono HM2.out.b.size), (hb2.block B hl1).trans HM2.out.f, (hb2.block w.heap.size hl2).trans HM2.out.x⟩, k + 1, by go_num, by rw [HCS.out], by omega⟩
      | true =>
        rw [hb] at hcs HCALL
        have hcs' : (cntB Bf (k + 1) : Int) = (cntB Bf k : Int) + 1 := by rw [hcs]; rfl
        have HCS := Lib.hid hcs'
        clear hcs hcs' hb
        go_wp2_with (go_at_call 7; refine HCALL.out.mono ?_; rintro r w2 ⟨rfl, hb2⟩)
        go_roundg m
        case measure => omega
        case rel =>
          have hl1 := (Array.getElem?_eq_some_iff.1 HM2.out.f).1
          have hl2 := (Array.getElem?_eq_some_iff.1 HM2.out.x).1
          exact ⟨⟨HM2.out.b.trans (hb2.mono HM2.out.b.size), (hb2.block B hl1).trans HM2.out.f, (hb2.block w.heap.size hl2).trans HM2.out.x⟩, k + 1, by go_num, congrArg (Value.int .i64) HCS.out.symm, by omega⟩
    · obtain rfl : k = n := by omega
      go_wp2_with (go_quiet (fail))
      go_ret
      exact ⟨rfl, HM2.out.b⟩
set_option maxHeartbeats 1000000 in
set_option maxRecDepth 100000 in
theorem rmeant_severalFalse {a : Nat → Int} {B g c n : Nat} {Bf : Nat → Bool} {w : World} (hn : n ≤ 200000) (h : w.heap[B]? = some (fltObj (if false then kOr else kAnd) 0 0 0 (.slice (some ⟨g, 0, none⟩) n c)))
    (hk : ∀ W, Below w.heap.size w W → ∀ j, j < n → ∃ k, W.cell? ⟨g, j, none⟩ = some (ptrP k) ∧ Calls Tryd.prog 7 #[ptrP k, xv a] W (RMP a W (Bf j))) :
    Calls Tryd.prog 7 #[ptrP B, xv a] w (RMP a w ((cntB Bf n : Int) == (n : Int))) := by
  have h : w.heap[B]? = some (fltObj kAnd 0 0 0 (.slice (some ⟨g, 0, none⟩) n c)) := h
  have hf5 : (0 : Nat) < 5 := by omega
  have HK := Lib.hid hk
  clear hk
  unfold xv
  have H := Lib.hid h
  have hBl := (Array.getElem?_eq_some_iff.1 h).1
  clear h
  go_enter Tryd.func7, Tryd.ntmps7
  go_wp2_with fail
  have hX := heap_alloc_new w (xObj a)
  have hF := (Below.heap_alloc w (xObj a) B hBl).trans H.out
  obtain ⟨x0, x1, x2, x3, x4⟩ := xcells hX
  obtain ⟨f0, f1, f2, f3, f4, e0, e1, e2, e3, e4⟩ := block5 hF
  have HX := Lib.hid hX; have HF := Lib.hid hF
  clear hX hF e0 e1 e2 e3 e4
  refine wp_region_late (fun W => W.cell? ⟨w.heap.size, 0, none⟩ = some (.int .i64 (a 0)) ∧ W.cell? ⟨w.heap.size, 1, none⟩ = some (.int .i64 (a 1)) ∧ W.cell? ⟨w.heap.size, 2, none⟩ = some (.int .i64 (a 2)) ∧ W.cell? ⟨w.heap.size, 3, none⟩ = some (.int .i64 (a 3)) ∧ W.cell? ⟨w.heap.size, 4, none⟩ = some (.int .i64 (a 4)) ∧ W.cell? ⟨B, 1, none⟩ = some (.int .i64 0)) [15] rfl ⟨x0, x1, x2, x3, x4, f1⟩ (fun hHeld => ?_)
  refine wpAnyT_takePD (i := 0) (d := 10) (oi := _) (v := ?zv84) rfl rfl (by kernel_rfl) (fun _ _ _ h => h) (Or.inl ⟨by rfl, ?zy84⟩) (by assumption) ?zr84
  case zy84 => (intro w hSw; (try dsimp only at hSw); go_split_ands; go_simp; (try rw [if_pos (by omega)]); (try go_simp); try with_reducible rfl)
  simp only [List.setIfInBounds_toArray, List.set_cons_zero, List.set_cons_succ]
  refine wpAnyT_takeD (i := 1) (d := 11) (oi := _) (v := ?zv85) rfl rfl (by kernel_rfl) (fun _ _ _ h => h) (Or.inl ⟨by rfl, ?zy85⟩) (by assumption) ?zr85
  case zy85 => (intro w hSw; (try dsimp only at hSw); go_split_ands; go_simp; (try rw [if_pos (by omega)]); (try go_simp); try with_reducible rfl)
  simp only [List.setIfInBounds_toArray, List.set_cons_zero, List.set_cons_succ]
  refine wpAnyT_takePD (i := 2) (d := 12) (oi := _) (v := ?zv86) rfl rfl (by kernel_rfl) (fun _ _ _ h => h) (Or.inl ⟨by rfl, ?zy86⟩) (by assumption) ?zr86
  case zy86 => (intro w hSw; (try dsimp only at hSw); go_split_ands; go_simp; (try rw [if_pos (by omega)]); (try go_simp); try with_reducible rfl)
  simp only [List.setIfInBounds_toArray, List.set_cons_zero, List.set_cons_succ]
  refine wpAnyT_takeD (i := 3) (d := 13) (oi := _) (v := ?zv87) rfl rfl (by kernel_rfl) (fun _ _ _ h => h) (Or.inl ⟨by rfl, ?zy87⟩) (by assumption) ?zr87
  case zy87 => (intro w hSw; (try dsimp only at hSw); go_split_ands; go_simp; (try rw [if_pos (by omega)]); (try go_simp); try with_reducible rfl)
  simp only [List.setIfInBounds_toArray, List.set_cons_zero, List.set_cons_succ]
  refine wpAnyT_takePD (i := 4) (d := 14) (oi := _) (v := ?zv88) rfl rfl (by kernel_rfl) (fun _ _ _ h => h) (Or.inl ⟨by rfl, ?zy88⟩) (by assumption) ?zr88
  case zy88 => (intro w hSw; (try dsimp only at hSw); go_split_ands; go_simp; (try rw [if_pos (by omega)]); (try go_simp); try with_reducible rfl)
  simp only [List.setIfInBounds_toArray, List.set_cons_zero, List.set_cons_succ]
  refine wpAnyT_takeD (i := 5) (d := 15) (oi := _) (v := ?zv89) rfl rfl (by kernel_rfl) (fun _ _ _ h => h) (Or.inl ⟨by rfl, ?zy89⟩) (by assumption) ?zr89
  case zy89 => (intro w hSw; (try dsimp only at hSw); go_split_ands; go_simp; (try rw [if_pos (by omega)]); (try go_simp); try with_reducible rfl)
  simp only [List.setIfInBounds_toArray, List.set_cons_zero, List.set_cons_succ]
  refine wpAnyT_takePD (i := 6) (d := 16) (oi := _) (v := ?zv90) rfl rfl (by kernel_rfl) (fun _ _ _ h => h) (Or.inl ⟨by rfl, ?zy90⟩) (by assumption) ?zr90
  case zy90 => (intro w hSw; (try dsimp only at hSw); go_split_ands; go_simp; (try rw [if_pos (by omega)]); (try go_simp); try with_reducible rfl)
  simp only [List.setIfInBounds_toArray, List.set_cons_zero, List.set_cons_succ]
  refine wpAnyT_takeD (i := 7) (d := 17) (oi := _) (v := ?zv91) rfl rfl (by kernel_rfl) (fun _ _ _ h => h) (Or.inl ⟨by rfl, ?zy91⟩) (by assumption) ?zr91
  case zy91 => (intro w hSw; (try dsimp only at hSw); go_split_ands; go_simp; (try rw [if_pos (by omega)]); (try go_simp); try with_reducible rfl)
  simp only [List.setIfInBounds_toArray, List.set_cons_zero, List.set_cons_succ]
  refine wpAnyT_takePD (i := 8) (d := 18) (oi := _) (v := ?zv92) rfl rfl (by kernel_rfl) (fun _ _ _ h => h) (Or.inl ⟨by rfl, ?zy92⟩) (by assumption) ?zr92
  case zy92 => (intro w hSw; (try dsimp only at hSw); go_split_ands; go_simp; (try rw [if_pos (by omega)]); (try go_simp); try with_reducible rfl)
  simp only [List.setIfInBounds_toArray, List.set_cons_zero, List.set_cons_succ]
  refine wpAnyT_takeD (i := 9) (d := 19) (oi := _) (v := ?zv93) rfl rfl (by kernel_rfl) (fun _ _ _ h => h) (Or.inl ⟨by rfl, ?zy93⟩) (by assumption) ?zr93
  case zy93 => (intro w hSw; (try dsimp only at hSw); go_split_ands; go_simp; (try rw [if_pos (by omega)]); (try go_simp); try with_reducible rfl)
  simp only [List.setIfInBounds_toArray, List.set_cons_zero, List.set_cons_succ]
  refine wpAnyT_takePD (i := 11) (d := 21) (oi := _) (v := ?zv94) rfl rfl (by kernel_rfl) (fun _ _ _ h => h) (Or.inl ⟨by rfl, ?zy94⟩) (by assumption) ?zr94
  case zy94 => (intro w hSw; (try dsimp only at hSw); go_split_ands; go_simp; (try rw [if_pos (by omega)]); (try go_simp); try with_reducible rfl)
  simp only [List.setIfInBounds_toArray, List.set_cons_zero, List.set_cons_succ]
  refine wpAnyT_takePD (i := 12) (d := 22) (oi := _) (v := ?zv95) rfl rfl (by kernel_rfl) (fun _ _ _ h => h) (Or.inl ⟨by rfl, ?zy95⟩) (by assumption) ?zr95
  case zy95 => (intro w hSw; (try dsimp only at hSw); go_split_ands; go_simp; (try rw [if_pos (by omega)]); (try go_simp); try with_reducible rfl)
  simp only [List.setIfInBounds_toArray, List.set_cons_zero, List.set_cons_succ]
  refine wpAnyT_takePD (i := 13) (d := 23) (oi := _) (v := ?zv96) rfl rfl (by kernel_rfl) (fun _ _ _ h => h) (Or.inl ⟨by rfl, ?zy96⟩) (by assumption) ?zr96
  case zy96 => (intro w hSw; (try dsimp only at hSw); go_split_ands; go_simp; (try rw [if_pos (by omega)]); (try go_simp); try with_reducible rfl)
  simp only [List.setIfInBounds_toArray, List.set_cons_zero, List.set_cons_succ]
  refine wpAnyT_takeD (i := 14) (d := 24) (oi := _) (v := ?zv97) rfl rfl (by kernel_rfl) (fun _ _ _ h => h) (Or.inl ⟨by rfl, ?zy97⟩) (by assumption) ?zr97
  case zy97 => (intro w hSw; (try dsimp only at hSw); go_split_ands; go_simp; (try rw [if_pos (by omega)]); (try go_simp); try with_reducible rfl)
  simp only [List.setIfInBounds_toArray, List.set_cons_zero, List.set_cons_succ]
  refine wpAnyT_ready (rs := [10]) (by kernel_rfl) (by simp) (AllReadyT.cons rfl (fun K2 hK2 => ?_) AllReadyT.nil)
  go_simp
  have hA := alloc2_both w (xObj a) (.cells #[.int .i64 (a 0), .int .i64 (a 1), .int .i64 (a 2), .int .i64 (a 3), .int .i64 (a 4)] 3) 0
  have hA1 : RM0 a w B (fltObj kAnd 0 0 0 (.slice (some ⟨g, 0, none⟩) n c)) (((w.alloc (xObj a)).alloc (.cells #[.int .i64 (a 0), .int .i64 (a 1), .int .i64 (a 2), .int .i64 (a 3), .int .i64 (a 4)] 3)).drew) := ⟨(((Below.refl _ _).alloc (Nat.le_refl _) _).alloc (by simp) _).trans ⟨rfl, rfl, rfl, Nat.le_refl _, fun _ _ => rfl⟩, (Below.heap_alloc _ _ B (by rw [size_alloc]; omega)).trans HF.out, hA.1⟩
  have hA2 := five_cell hA.2 hf5
  obtain ⟨y0, y1, y2, y3, y4⟩ := xcells hA1.x
  have y5 := (block5 hA1.f).2.1
  have HA1 := Lib.hid hA1; have HA2 := Lib.hid hA2
  clear hA hA1 hA2
  refine hK2.out _ _ ⟨y0, y1, y2, y3, y4, y5⟩ (fun _ => ?_)
  clear y0 y1 y2 y3 y4 y5 x0 x1 x2 x3 x4 f0 f1 f2 f3 f4 hHeld HX HF
  refine wpAnyT_forget (fun W => RM0 a w B (fltObj kAnd 0 0 0 (.slice (some ⟨g, 0, none⟩) n c)) W ∧ W.cell? ⟨w.heap.size + 1, 0, none⟩ = some (.int .i64 (a 0))) ⟨HA1.out, HA2.out⟩ ?_
  rintro W ⟨hM, h5⟩
  clear HA1 HA2
  obtain ⟨f0, f1, f2, f3, f4, e0, e1, e2, e3, e4⟩ := block5 hM.f
  have f0l : W.cell? ⟨B, 0, none⟩ = some (.string ⟨#[97, 110, 100]⟩) := f0
  obtain ⟨x0, x1, x2, x3, x4⟩ := xcells hM.x
  have HM := Lib.hid hM
  clear hM f0
  refine wpAnyT_tail 15 (by simp) rfl (by simp) (by kernel_rfl) ?_
  simp only [List.drop_succ_cons, List.drop_zero]
  go_wp2_with fail
  go_loopg [7, 89] n (fun gk cv kv W' => RM0 a w B (fltObj kAnd 0 0 0 (.slice (some ⟨g, 0, none⟩) n c)) W' ∧ ∃ k : Nat, kv = .int .i64 k ∧ cv = .int .i64 (cntB Bf k) ∧ k + gk = n)
  case atStart => exact ⟨HM.out, 0, rfl, rfl, by omega⟩
  case round =>
    obtain ⟨hM, k, rfl, rfl, hkg⟩ := hrel
    have HM2 := Lib.hid hM
    clear hM f0l f1 f2 f3 f4 x0 x1 x2 x3 x4
    obtain ⟨f0, f1, f2, f3, f4, e0, e1, e2, e3, e4⟩ := block5 HM2.out.f
    have f0l : wr.cell? ⟨B, 0, none⟩ = some (.string ⟨#[97, 110, 100]⟩) := f0
    obtain ⟨x0, x1, x2, x3, x4⟩ := xcells HM2.out.x
    have hcb := cntB_le Bf k
    clear f0 e0 e1 e2 e3 e4
    by_cases hlt : k < n
    · obtain ⟨m, rfl⟩ : ∃ m, gk = m + 1 := ⟨gk - 1, by omega⟩
      obtain ⟨kb, hc, hcall⟩ := HK.out wr HM2.out.b k hlt
      have HCALL := Lib.hid hcall
      have hcs := cntB_succ Bf k
      clear hcall
      cases hb : Bf k with
      | false =>
        rw [hb] at hcs HCALL
        have hcs' : cntB Bf (k + 1) = cntB Bf k := hcs
        have HCS := Lib.hid hcs'
        clear hcs hcs' hb
        go_wp2_with (go_at_call 7; refine HCALL.out.mono ?_; rintro r w2 ⟨rfl, hb2⟩)
        go_roundg m
        case measure => omega
        case rel =>
          have hl1 := (Array.getElem?_eq_some_iff.1 HM2.out.f).1
          have hl2 := (Array.getElem?_eq_some_iff.1 HM2.out.x).1
          exact ⟨⟨HM2.out.b.trans (hb2.mono HM2.out.b.size), (hb2.block B hl1).trans HM2.out.f, (hb2.block w.heap.size hl2).trans HM2.out.x⟩, k + 1, by go_num, by rw [HCS.out], by omega⟩
      | true =>
        rw [hb] at hcs HCALL
        have hcs' : (cntB Bf (k + 1) : Int) = (cntB Bf k : Int) + 1 := by rw [hcs]; rfl
        have HCS := Lib.hid hcs'
        clear hcs hcs' hb
        go_wp2_with (go_at_call 7; refine HCALL.out.mono ?_; rintro r w2 ⟨rfl, hb2⟩)
        go_roundg m
        case measure => omega
        case rel =>
          have hl1 := (Array.getElem?_eq_some_iff.1 HM2.out.f).1
          have hl2 := (Array.getElem?_eq_some_iff.1 HM2.out.x).1
          exact ⟨⟨HM2.out.b.trans (hb2.mono HM2.out.b.size), (hb2.block B hl1).trans HM2.out.f, (hb2.block w.heap.size hl2).trans HM2.out.x⟩, k + 1, by go_num, congrArg (Value.int .i64) HCS.out.symm, by omega⟩
    · obtain rfl : k = n := by omega
      go_wp2_with (go_quiet (fail))
      go_ret
      exact ⟨rfl, HM2.out.b⟩
mutual
/-- Meant of the document's filters. -/
theorem rmeant {a : Nat → Int} {S : Nat → Prop} : ∀ {A : Ast} {w : World} {B : Nat}, RAst S w B A → Calls Tryd.prog 7 #[ptrP B, xv a] w (RMP a w (meant a band A))
  | .any, w, B, h => by
    unfold RAst at h
    unfold meant
    exact rmeant_any h.2
  | .test f lo hi, w, B, h => by
    unfold RAst at h
    unfold meant
    exact rmeant_test h.2.1 h.2.2.2.2
  | .has f lo, w, B, h => by
    unfold RAst at h
    obtain ⟨_, h1, ⟨h2, h3⟩, h4⟩ := h
    obtain ⟨N, rfl⟩ := Int.eq_ofNat_of_zero_le h2
    unfold meant
    exact rmeant_has h1 (by omega) h4
  | .not A, w, B, h => by
    unfold RAst at h
    obtain ⟨_, g, c, h1, _, k, h2, h3⟩ := h
    unfold meant
    exact rmeant_not h1 h2 fun W hb => rmeant (S := fun _ => True) (h3.kept fun b _ hlt => ⟨trivial, hb.block b hlt⟩)
  | .several o l, w, B, h => by
    unfold RAst at h
    obtain ⟨_, h0, g, c, h1, _, h2⟩ := h
    have hks := fun (W : World) (hb : Below w.heap.size w W) (hgW : W.heap[g]? = w.heap[g]?) => rmeants (a := a) (RKids.kept (S' := fun _ => True) (fun b _ hlt => ⟨trivial, hb.block b hlt⟩) hgW h2)
    have hgl : g < w.heap.size := by
      cases l with
      | nil => exact absurd h0.1 (by simp)
      | cons x l => unfold RKids at h2; obtain ⟨⟨_, h6, _⟩, _⟩ := h2; exact World.block_lt_of_cell? w _ h6
    cases o with
    | true =>
      rw [← cnt_or]
      exact rmeant_severalTrue (by have := h0.2; omega) h1 (fun W hb j hj => by have := hks W hb (hb.block g hgl) j hj; rwa [Nat.zero_add] at this)
    | false =>
      rw [← cnt_and]
      exact rmeant_severalFalse (by have := h0.2; omega) h1 (fun W hb j hj => by have := hks W hb (hb.block g hgl) j hj; rwa [Nat.zero_add] at this)
theorem rmeants {a : Nat → Int} {S : Nat → Prop} : ∀ {l : List Ast} {w : World} {g i : Nat}, RKids S w g i l → ∀ j, j < l.length → ∃ k, w.cell? ⟨g, i + j, none⟩ = some (ptrP k) ∧ Calls Tryd.prog 7 #[ptrP k, xv a] w (RMP a w (mAt a band l j))
  | [], _, _, _, _, j, hj => by simp at hj
  | A :: l, w, g, i, h, j, hj => by
    unfold RKids at h
    obtain ⟨⟨u, h1, h2⟩, h3⟩ := h
    cases j with
    | zero => exact ⟨u, h1, rmeant h2⟩
    | succ j =>
      obtain ⟨u', h4, h5⟩ := rmeants (a := a) h3 j (by simpa using hj)
      exact ⟨u', by rw [show i + (j + 1) = i + 1 + j by omega]; exact h4, h5⟩
end
end Go.Proofs.YtkijaminnalfgaaDoor
