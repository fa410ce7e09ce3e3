/-
  What is proved here: the text of the document's filters (11.3).
-/
import Derived.Test.YtfjfbiocjloilaaDoorFiltT1
import Derived.Test.YtfjfbiocjloilaaDoorFiltW6
namespace Go.Proofs.YtfjfbiocjloilaaDoor
open Go.RowKit Go.Sort

set_option maxHeartbeats 1000000 in
set_option maxRecDepth 100000 in
theorem told_one {lo b : Nat} {n : Int} (hn : NumOk n) (w : World) (hE : EnvF lo w) (hc : w.cell? ⟨b, 0, none⟩ = some (.int .i64 n)) :
    Calls Tryd.prog 15 #[.slice (some ⟨b, 0, none⟩) 1 1] w fun e w' => e = .returned (.string (bs (Lib.itoa n))) ∧ Below w.heap.size w w' := by
  have hlo := hE.hi
  obtain ⟨sn, hsn⟩ : ∃ sn, sn = bs (Lib.itoa n) := ⟨_, rfl⟩
  have hci : ∀ W, Below w.heap.size w W → Calls Tryd.prog 24 #[.int .i64 n] W fun e w' => e = .returned (.string sn) ∧ Below W.heap.size W w' := fun W hb => by rw [hsn]; exact itoa_any hn W (hE.below (hb.mono hlo))
  have hn21 : sn.size ≤ 21 := by rw [hsn]; exact itoa_size hn
  have hbl := World.block_lt_of_cell? w _ hc
  have HCI := Lib.hid hci; have HC := Lib.hid hc; have HSN := Lib.hid hsn
  clear hci hE hsn
  go_enter Tryd.func15, Tryd.ntmps15
  go_wp2_with fail
  go_loopg [3, 8] 1 (fun gk lv kv W => Below w.heap.size w W ∧ ∃ k : Nat, kv = .int .i64 k ∧ k + gk = 1 ∧ W.ownsRow w.heap.size 9 1 lv k (List.replicate k (.string sn)))
  case atStart => exact ⟨Below.refl _ _, 0, rfl, by omega, World.ownsRow_nil _ _ _ _⟩
  case round =>
    obtain ⟨hb, k, rfl, hkg, ho⟩ := hrel
    have hcw := below_cell hb HC.out hbl
    have HB := Lib.hid hb; have HO := Lib.hid ho
    clear hb ho
    by_cases hlt : k < 1
    · obtain rfl : k = 0 := by omega
      obtain rfl : gk = 1 := by omega
      have hcw0 : wr.cell? ⟨b, 0, none⟩ = some (.int .i64 n) := hcw
      go_wp2_with (first
        | (go_at_call 24; refine (HCI.out _ HB.out).mono ?_; rintro r w2 ⟨rfl, hb2⟩; have hkv : ∀ q, u3.ownBlock = some q → w.heap.size ≤ q ∧ q < wr.heap.size := (fun q hq => HO.out.lt q hq); have hown : w2.ownsRow w.heap.size 9 1 u3 0 (List.replicate 0 (.string sn)) := HO.out.kept (row := none) ⟨hb2.os, hb2.tape, hb2.output, hb2.size, fun j hj _ => hb2.block j hj⟩ (by cases u3.ownBlock <;> simp); have hsz2 : w.heap.size ≤ w2.heap.size := (by have := hb2.size; have := HB.out.size; omega); have HB2 := Lib.hid hb2; have HKV := Lib.hid hkv; clear hb2 hkv)
        | (at_builtin; refine wpList_append_fresh rfl _ _ 47 rfl w.heap.size 9 (.string ⟨#[]⟩) 1 16 Tryd.underlying47 infoStr rfl (by decide) u3 _ _ rfl w2 hown 1 [.string sn] 0 rfl rfl rfl (by simp [Value.oneCell']) (by decide) (by omega) (by omega) hsz2 ?_; intro g1 cp1 w6 ho6 hgr6 hat6 hlt6; have HO6 := Lib.hid ho6; have HGR6 := Lib.hid hgr6; clear ho6 hgr6 hat6))
      go_roundg 0
      case measure => omega
      case rel =>
        have hs6 := HGR6.out.size
        have hs2 := HB2.out.size
        have hs1 := HB.out.size
        refine ⟨⟨(HGR6.out.os.trans HB2.out.os).trans HB.out.os, (HGR6.out.tape.trans HB2.out.tape).trans HB.out.tape, (HGR6.out.output.trans HB2.out.output).trans HB.out.output, by omega, fun q hq => ((HGR6.out.block q (by omega) (fun e => by have := (HKV.out q e.symm).1; omega)).trans (HB2.out.block q (by omega))).trans (HB.out.block q hq)⟩, 1, by go_num, by omega, ?_⟩
        exact HO6.out
    · obtain rfl : k = 1 := by omega
      obtain ⟨g', c', rfl, hkc, hcells⟩ := row_full HO.out (by omega) (by simp)
      have hsl : sn.data.toList.length ≤ 140737488355328 := by have : sn.data.toList.length = sn.size := (by simp); omega
      have hjoin : Calls Tryd.prog 25 #[.slice (some ⟨g', 0, none⟩) 1 c', .string ⟨#[32]⟩] wr fun e w' => e = .returned (.string sn) ∧ Below wr.heap.size wr w' := by
        have h := Tryd.strings_Join g' 0 c' [sn] ⟨#[32]⟩ wr (fun j x hjx => by
          match j with
          | 0 => simp at hjx; subst hjx; have := hcells 0 (by simp); simpa using this
          | j + 1 => simp at hjx) (by have := hcells 0 (by simp); exact World.block_lt_of_cell? wr _ this) (by simp) hkc (by simp only [List.map_cons, List.map_nil]; rw [Lib.join_one]; exact hsl)
        simp only [List.map_cons, List.map_nil] at h
        rw [Lib.join_one] at h
        exact h
      have HJN := Lib.hid hjoin
      clear hjoin hcells
      go_wp2_with (go_at_call 25; refine HJN.out.mono ?_; rintro r w7 ⟨rfl, hb7⟩)
      go_ret
      exact ⟨ret_str (by rw [HSN.out]), HB.out.trans (hb7.mono HB.out.size)⟩
def RTP (w : World) (s : List UInt8) (e : Ending) (w' : World) : Prop := e = .returned (.string (bs s)) ∧ Below w.heap.size w w'
set_option maxRecDepth 100000 in
theorem rtext_any {B : Nat} {w : World} (h : w.heap[B]? = some (fltObj kAny 0 0 0 (.slice none 0 0))) : Calls Tryd.prog 8 #[ptrP B] w (RTP w (txt .any)) := by
  obtain ⟨f0, f1, f2, f3, f4, e0, e1, e2, e3, e4⟩ := block5 h
  have f0l : w.cell? ⟨B, 0, none⟩ = some (.string ⟨#[97, 110, 121]⟩) := f0
  clear f0 h
  go_enter Tryd.func8, Tryd.ntmps8
  go_wp2
  go_ret
  exact ⟨ret_str rfl, Below.refl _ _⟩
set_option maxHeartbeats 2000000 in
set_option maxRecDepth 100000 in
theorem rtext_eq {lo f B : Nat} {n : Int} (hf : f < 5) (hn : NumOk n) (w : World) (hE : EnvF lo w) (h : w.heap[B]? = some (fltObj kTest f n n (.slice none 0 0))) :
    Calls Tryd.prog 8 #[ptrP B] w (RTP w (txt (.test f n n))) := by
  have hlo := hE.hi
  have hBl := (Array.getElem?_eq_some_iff.1 h).1
  obtain ⟨fb, fo, fc, hf1, hf2, hf3⟩ := hE.rf
  obtain ⟨kf, hkf⟩ : ∃ kf, kf = kField f := ⟨_, rfl⟩
  have hk4 : kf.size ≤ 4 := by rw [hkf]; have := kField_len f; simpa using this
  have hp : w.cell? ⟨fb, fo + f, none⟩ = some (.string kf) := (hf3 f hf).trans (by rw [hkf])
  obtain ⟨sn, hsn⟩ : ∃ sn, sn = bs (Lib.itoa n) := ⟨_, rfl⟩
  have hn21 : sn.size ≤ 21 := by rw [hsn]; exact itoa_size hn
  have htn : ∀ W b, Below w.heap.size w W → W.cell? ⟨b, 0, none⟩ = some (.int .i64 n) → Calls Tryd.prog 15 #[.slice (some ⟨b, 0, none⟩) 1 1] W fun e w' => e = .returned (.string sn) ∧ Below W.heap.size W w' := fun W b hb hc => by rw [hsn]; exact told_one hn W (hE.below (hb.mono hlo)) hc
  obtain ⟨f0, f1, f2, f3, f4, e0, e1, e2, e3, e4⟩ := block5 h
  have f0l : w.cell? ⟨B, 0, none⟩ = some (.string ⟨#[116, 101, 115, 116]⟩) := f0
  have HTN := Lib.hid htn; have HSN := Lib.hid hsn; have HKF := Lib.hid hkf; have H := Lib.hid h
  clear htn hsn hkf hf3 hE f0 h e0 e1 e2 e3 e4
  go_enter Tryd.func8, Tryd.ntmps8
  go_wp2_with fail
  refine wp_region_late (fun W => W.cell? ⟨0, 0, none⟩ = some (.slice (some ⟨fb, fo, none⟩) 5 fc) ∧ W.cell? ⟨fb, fo + f, none⟩ = some (.string kf) ∧ W.cell? ⟨B, 1, none⟩ = some (.int .i64 f) ∧ W.cell? ⟨B, 2, none⟩ = some (.int .i64 n)) [14] rfl ⟨hf1, hp, f1, f2⟩ (fun hHeld => ?_)
  refine wpAnyT_takeD (i := 0) (d := 15) (oi := _) (v := ?zv1) rfl rfl (by kernel_rfl) (fun _ _ _ h => h) (Or.inl ⟨by rfl, ?zy1⟩) (by assumption) ?zr1
  case zy1 => (intro w hSw; (try dsimp only at hSw); go_split_ands; go_simp; (try rw [if_pos (by omega)]); (try go_simp); try with_reducible rfl)
  simp only [List.setIfInBounds_toArray, List.set_cons_zero, List.set_cons_succ]
  refine wpAnyT_takePD (i := 1) (d := 16) (oi := _) (v := ?zv2) rfl rfl (by kernel_rfl) (fun _ _ _ h => h) (Or.inl ⟨by rfl, ?zy2⟩) (by assumption) ?zr2
  case zy2 => (intro w hSw; (try dsimp only at hSw); go_split_ands; go_simp; (try rw [if_pos (by omega)]); (try go_simp); try with_reducible rfl)
  simp only [List.setIfInBounds_toArray, List.set_cons_zero, List.set_cons_succ]
  refine wpAnyT_takePD (i := 2) (d := 17) (oi := _) (v := ?zv3) rfl rfl (by kernel_rfl) (fun _ _ _ h => h) (Or.inl ⟨by rfl, ?zy3⟩) (by assumption) ?zr3
  case zy3 => (intro w hSw; (try dsimp only at hSw); go_split_ands; go_simp; (try rw [if_pos (by omega)]); (try go_simp); try with_reducible rfl)
  simp only [List.setIfInBounds_toArray, List.set_cons_zero, List.set_cons_succ]
  refine wpAnyT_takePD (i := 3) (d := 18) (oi := _) (v := ?zv4) rfl rfl (by kernel_rfl) (fun _ _ _ h => h) (Or.inl ⟨by rfl, ?zy4⟩) (by assumption) ?zr4
  case zy4 => (intro w hSw; (try dsimp only at hSw); go_split_ands; go_simp; (try rw [if_pos (by omega)]); (try go_simp); try with_reducible rfl)
  simp only [List.setIfInBounds_toArray, List.set_cons_zero, List.set_cons_succ]
  refine wpAnyT_takeD (i := 4) (d := 19) (oi := _) (v := ?zv5) rfl rfl (by kernel_rfl) (fun _ _ _ h => h) (Or.inl ⟨by rfl, ?zy5⟩) (by assumption) ?zr5
  case zy5 => (intro w hSw; (try dsimp only at hSw); go_split_ands; go_simp; (try rw [if_pos (by omega)]); (try go_simp); try with_reducible rfl)
  simp only [List.setIfInBounds_toArray, List.set_cons_zero, List.set_cons_succ]
  refine wpAnyT_takePD (i := 5) (d := 20) (oi := _) (v := ?zv6) rfl rfl (by kernel_rfl) (fun _ _ _ h => h) (Or.inl ⟨by rfl, ?zy6⟩) (by assumption) ?zr6
  case zy6 => (intro w hSw; (try dsimp only at hSw); go_split_ands; go_simp; (try rw [if_pos (by omega)]); (try go_simp); try with_reducible rfl)
  simp only [List.setIfInBounds_toArray, List.set_cons_zero, List.set_cons_succ]
  refine wpAnyT_takeD (i := 6) (d := 21) (oi := _) (v := ?zv7) rfl rfl (by kernel_rfl) (fun _ _ _ h => h) (Or.inl ⟨by rfl, ?zy7⟩) (by assumption) ?zr7
  case zy7 => (intro w hSw; (try dsimp only at hSw); go_split_ands; go_simp; (try rw [if_pos (by omega)]); (try go_simp); try with_reducible rfl)
  simp only [List.setIfInBounds_toArray, List.set_cons_zero, List.set_cons_succ]
  refine wpAnyT_takePD (i := 7) (d := 22) (oi := _) (v := ?zv8) rfl rfl (by kernel_rfl) (fun _ _ _ h => h) (Or.inl ⟨by rfl, ?zy8⟩) (by assumption) ?zr8
  case zy8 => (intro w hSw; (try dsimp only at hSw); go_split_ands; go_simp; (try rw [if_neg (by omega)]); (try go_simp); try with_reducible rfl)
  simp only [List.setIfInBounds_toArray, List.set_cons_zero, List.set_cons_succ]
  refine wpAnyT_takePD (i := 8) (d := 23) (oi := _) (v := ?zv9) rfl rfl (by kernel_rfl) (fun _ _ _ h => h) (Or.inl ⟨by rfl, ?zy9⟩) (by assumption) ?zr9
  case zy9 => (intro w hSw; (try dsimp only at hSw); go_split_ands; go_simp; (try rw [if_pos (by omega)]); (try go_simp); try with_reducible rfl)
  simp only [List.setIfInBounds_toArray, List.set_cons_zero, List.set_cons_succ]
  refine wpAnyT_takePD (i := 9) (d := 24) (oi := _) (v := ?zv10) rfl rfl (by kernel_rfl) (fun _ _ _ h => h) (Or.inl ⟨by rfl, ?zy10⟩) (by assumption) ?zr10
  case zy10 => (intro w hSw; (try dsimp only at hSw); go_split_ands; go_simp; (try rw [if_pos (by omega)]); (try go_simp); try with_reducible rfl)
  simp only [List.setIfInBounds_toArray, List.set_cons_zero, List.set_cons_succ]
  refine wpAnyT_takePD (i := 10) (d := 25) (oi := _) (v := ?zv11) rfl rfl (by kernel_rfl) (fun _ _ _ h => h) (Or.inl ⟨by rfl, ?zy11⟩) (by assumption) ?zr11
  case zy11 => (intro w hSw; (try dsimp only at hSw); go_split_ands; go_simp; (try rw [if_pos (by omega)]); (try go_simp); try with_reducible rfl)
  simp only [List.setIfInBounds_toArray, List.set_cons_zero, List.set_cons_succ]
  refine wpAnyT_takeD (i := 11) (d := 26) (oi := _) (v := ?zv12) rfl rfl (by kernel_rfl) (fun _ _ _ h => h) (Or.inl ⟨by rfl, ?zy12⟩) (by assumption) ?zr12
  case zy12 => (intro w hSw; (try dsimp only at hSw); go_split_ands; go_simp; (try rw [if_pos (by omega)]); (try go_simp); try with_reducible rfl)
  simp only [List.setIfInBounds_toArray, List.set_cons_zero, List.set_cons_succ]
  refine wpAnyT_ready (rs := [12]) (by kernel_rfl) (by simp) (AllReadyT.cons rfl (fun K2 hK2 => ?_) AllReadyT.nil)
  go_simp
  have hb1w : Below w.heap.size w ((w.alloc (.cells #[.int .i64 n] 3)).drew) := ((Below.refl _ _).alloc (Nat.le_refl _) _).trans ⟨rfl, rfl, rfl, Nat.le_refl _, fun _ _ => rfl⟩
  have hcn : ((w.alloc (.cells #[.int .i64 n] 3)).drew).cell? ⟨w.heap.size, 0, none⟩ = some (.int .i64 n) := cell_new w #[.int .i64 n] 3 0
  have q0 := below_cell hb1w hf1 (World.block_lt_of_cell? w _ hf1)
  have q1 := below_cell hb1w hp (World.block_lt_of_cell? w _ hp)
  have q2 := below_cell hb1w f1 hBl
  have q3 := below_cell hb1w f2 hBl
  have HB1 := Lib.hid hb1w; have HCN := Lib.hid hcn
  clear hb1w hcn hHeld
  refine hK2.out _ _ ⟨q0, q1, q2, q3⟩ (fun _ => ?_)
  clear q0 q1 q2 q3
  refine wpAnyT_ready (rs := [13]) (by kernel_rfl) (by simp) (AllReadyT.cons rfl (fun K3 hK3 => ?_) AllReadyT.nil)
  go_simp
  refine Calls.mono (HTN.out _ _ HB1.out HCN.out) ?_
  rintro r w2 ⟨rfl, hb2⟩
  have hb3 := HB1.out.trans (hb2.mono HB1.out.size)
  have q0 := below_cell hb3 hf1 (World.block_lt_of_cell? w _ hf1)
  have q1 := below_cell hb3 hp (World.block_lt_of_cell? w _ hp)
  have q2 := below_cell hb3 f1 hBl
  have p2 := below_cell hb3 f2 hBl
  have p3 := below_cell hb3 f3 hBl
  have HB3 := Lib.hid hb3
  clear hb3 hb2
  refine hK3.out _ _ ⟨q0, q1, q2, p2⟩ (fun _ => ?_)
  refine wpAnyT_tail 14 (by simp) rfl (by simp) (by kernel_rfl) ?_
  simp only [List.drop_succ_cons, List.drop_zero]
  go_wp2_with fail
  go_quiet (fail)
  go_wp2
  go_ret
  refine ⟨ret_str ?_, HB3.out.trans ⟨rfl, rfl, rfl, Nat.le_refl _, fun _ _ => rfl⟩⟩
  show ((kf ++ (⟨#[32]⟩ : ByteArray)) ++ sn).data.toList = txt (.test f n n)
  rw [data_app, data_app, HSN.out, HKF.out]
  simp only [txt, if_true, List.append_nil]
set_option maxHeartbeats 2000000 in
set_option maxRecDepth 100000 in
theorem rtext_ne {lo f B : Nat} {n m : Int} (hf : f < 5) (hn : NumOk n) (hm : NumOk m) (hnm : m ≠ n) (w : World) (hE : EnvF lo w) (h : w.heap[B]? = some (fltObj kTest f n m (.slice none 0 0))) :
    Calls Tryd.prog 8 #[ptrP B] w (RTP w (txt (.test f n m))) := by
  have hlo := hE.hi
  have hBl := (Array.getElem?_eq_some_iff.1 h).1
  obtain ⟨fb, fo, fc, hf1, hf2, hf3⟩ := hE.rf
  obtain ⟨kf, hkf⟩ : ∃ kf, kf = kField f := ⟨_, rfl⟩
  have hk4 : kf.size ≤ 4 := by rw [hkf]; have := kField_len f; simpa using this
  have hp : w.cell? ⟨fb, fo + f, none⟩ = some (.string kf) := (hf3 f hf).trans (by rw [hkf])
  obtain ⟨sn, hsn⟩ : ∃ sn, sn = bs (Lib.itoa n) := ⟨_, rfl⟩
  have hn21 : sn.size ≤ 21 := by rw [hsn]; exact itoa_size hn
  have htn : ∀ W b, Below w.heap.size w W → W.cell? ⟨b, 0, none⟩ = some (.int .i64 n) → Calls Tryd.prog 15 #[.slice (some ⟨b, 0, none⟩) 1 1] W fun e w' => e = .returned (.string sn) ∧ Below W.heap.size W w' := fun W b hb hc => by rw [hsn]; exact told_one hn W (hE.below (hb.mono hlo)) hc
  obtain ⟨sm, hsm⟩ : ∃ sm, sm = bs (Lib.itoa m) := ⟨_, rfl⟩
  have hm21 : sm.size ≤ 21 := by rw [hsm]; exact itoa_size hm
  have htm : ∀ W b, Below w.heap.size w W → W.cell? ⟨b, 0, none⟩ = some (.int .i64 m) → Calls Tryd.prog 15 #[.slice (some ⟨b, 0, none⟩) 1 1] W fun e w' => e = .returned (.string sm) ∧ Below W.heap.size W w' := fun W b hb hc => by rw [hsm]; exact told_one hm W (hE.below (hb.mono hlo)) hc
  have HTM := Lib.hid htm; have HSM := Lib.hid hsm; have HNM := Lib.hid hnm
  have hb1 : (m != n) = true := by simpa using hnm
  clear htm hsm hnm
  obtain ⟨f0, f1, f2, f3, f4, e0, e1, e2, e3, e4⟩ := block5 h
  have f0l : w.cell? ⟨B, 0, none⟩ = some (.string ⟨#[116, 101, 115, 116]⟩) := f0
  have HTN := Lib.hid htn; have HSN := Lib.hid hsn; have HKF := Lib.hid hkf; have H := Lib.hid h
  clear htn hsn hkf hf3 hE f0 h e0 e1 e2 e3 e4
  go_enter Tryd.func8, Tryd.ntmps8
  go_wp2_with fail
  refine wp_region_late (fun W => W.cell? ⟨0, 0, none⟩ = some (.slice (some ⟨fb, fo, none⟩) 5 fc) ∧ W.cell? ⟨fb, fo + f, none⟩ = some (.string kf) ∧ W.cell? ⟨B, 1, none⟩ = some (.int .i64 f) ∧ W.cell? ⟨B, 2, none⟩ = some (.int .i64 n)) [14] rfl ⟨hf1, hp, f1, f2⟩ (fun hHeld => ?_)
  refine wpAnyT_takeD (i := 0) (d := 15) (oi := _) (v := ?zv14) rfl rfl (by kernel_rfl) (fun _ _ _ h => h) (Or.inl ⟨by rfl, ?zy14⟩) (by assumption) ?zr14
  case zy14 => (intro w hSw; (try dsimp only at hSw); go_split_ands; go_simp; (try rw [if_pos (by omega)]); (try go_simp); try with_reducible rfl)
  simp only [List.setIfInBounds_toArray, List.set_cons_zero, List.set_cons_succ]
  refine wpAnyT_takePD (i := 1) (d := 16) (oi := _) (v := ?zv15) rfl rfl (by kernel_rfl) (fun _ _ _ h => h) (Or.inl ⟨by rfl, ?zy15⟩) (by assumption) ?zr15
  case zy15 => (intro w hSw; (try dsimp only at hSw); go_split_ands; go_simp; (try rw [if_pos (by omega)]); (try go_simp); try with_reducible rfl)
  simp only [List.setIfInBounds_toArray, List.set_cons_zero, List.set_cons_succ]
  refine wpAnyT_takePD (i := 2) (d := 17) (oi := _) (v := ?zv16) rfl rfl (by kernel_rfl) (fun _ _ _ h => h) (Or.inl ⟨by rfl, ?zy16⟩) (by assumption) ?zr16
  case zy16 => (intro w hSw; (try dsimp only at hSw); go_split_ands; go_simp; (try rw [if_pos (by omega)]); (try go_simp); try with_reducible rfl)
  simp only [List.setIfInBounds_toArray, List.set_cons_zero, List.set_cons_succ]
  refine wpAnyT_takePD (i := 3) (d := 18) (oi := _) (v := ?zv17) rfl rfl (by kernel_rfl) (fun _ _ _ h => h) (Or.inl ⟨by rfl, ?zy17⟩) (by assumption) ?zr17
  case zy17 => (intro w hSw; (try dsimp only at hSw); go_split_ands; go_simp; (try rw [if_pos (by omega)]); (try go_simp); try with_reducible rfl)
  simp only [List.setIfInBounds_toArray, List.set_cons_zero, List.set_cons_succ]
  refine wpAnyT_takeD (i := 4) (d := 19) (oi := _) (v := ?zv18) rfl rfl (by kernel_rfl) (fun _ _ _ h => h) (Or.inl ⟨by rfl, ?zy18⟩) (by assumption) ?zr18
  case zy18 => (intro w hSw; (try dsimp only at hSw); go_split_ands; go_simp; (try rw [if_pos (by omega)]); (try go_simp); try with_reducible rfl)
  simp only [List.setIfInBounds_toArray, List.set_cons_zero, List.set_cons_succ]
  refine wpAnyT_takePD (i := 5) (d := 20) (oi := _) (v := ?zv19) rfl rfl (by kernel_rfl) (fun _ _ _ h => h) (Or.inl ⟨by rfl, ?zy19⟩) (by assumption) ?zr19
  case zy19 => (intro w hSw; (try dsimp only at hSw); go_split_ands; go_simp; (try rw [if_pos (by omega)]); (try go_simp); try with_reducible rfl)
  simp only [List.setIfInBounds_toArray, List.set_cons_zero, List.set_cons_succ]
  refine wpAnyT_takeD (i := 6) (d := 21) (oi := _) (v := ?zv20) rfl rfl (by kernel_rfl) (fun _ _ _ h => h) (Or.inl ⟨by rfl, ?zy20⟩) (by assumption) ?zr20
  case zy20 => (intro w hSw; (try dsimp only at hSw); go_split_ands; go_simp; (try rw [if_pos (by omega)]); (try go_simp); try with_reducible rfl)
  simp only [List.setIfInBounds_toArray, List.set_cons_zero, List.set_cons_succ]
  refine wpAnyT_takePD (i := 7) (d := 22) (oi := _) (v := ?zv21) rfl rfl (by kernel_rfl) (fun _ _ _ h => h) (Or.inl ⟨by rfl, ?zy21⟩) (by assumption) ?zr21
  case zy21 => (intro w hSw; (try dsimp only at hSw); go_split_ands; go_simp; (try rw [if_neg (by omega)]); (try go_simp); try with_reducible rfl)
  simp only [List.setIfInBounds_toArray, List.set_cons_zero, List.set_cons_succ]
  refine wpAnyT_takePD (i := 8) (d := 23) (oi := _) (v := ?zv22) rfl rfl (by kernel_rfl) (fun _ _ _ h => h) (Or.inl ⟨by rfl, ?zy22⟩) (by assumption) ?zr22
  case zy22 => (intro w hSw; (try dsimp only at hSw); go_split_ands; go_simp; (try rw [if_pos (by omega)]); (try go_simp); try with_reducible rfl)
  simp only [List.setIfInBounds_toArray, List.set_cons_zero, List.set_cons_succ]
  refine wpAnyT_takePD (i := 9) (d := 24) (oi := _) (v := ?zv23) rfl rfl (by kernel_rfl) (fun _ _ _ h => h) (Or.inl ⟨by rfl, ?zy23⟩) (by assumption) ?zr23
  case zy23 => (intro w hSw; (try dsimp only at hSw); go_split_ands; go_simp; (try rw [if_pos (by omega)]); (try go_simp); try with_reducible rfl)
  simp only [List.setIfInBounds_toArray, List.set_cons_zero, List.set_cons_succ]
  refine wpAnyT_takePD (i := 10) (d := 25) (oi := _) (v := ?zv24) rfl rfl (by kernel_rfl) (fun _ _ _ h => h) (Or.inl ⟨by rfl, ?zy24⟩) (by assumption) ?zr24
  case zy24 => (intro w hSw; (try dsimp only at hSw); go_split_ands; go_simp; (try rw [if_pos (by omega)]); (try go_simp); try with_reducible rfl)
  simp only [List.setIfInBounds_toArray, List.set_cons_zero, List.set_cons_succ]
  refine wpAnyT_takeD (i := 11) (d := 26) (oi := _) (v := ?zv25) rfl rfl (by kernel_rfl) (fun _ _ _ h => h) (Or.inl ⟨by rfl, ?zy25⟩) (by assumption) ?zr25
  case zy25 => (intro w hSw; (try dsimp only at hSw); go_split_ands; go_simp; (try rw [if_pos (by omega)]); (try go_simp); try with_reducible rfl)
  simp only [List.setIfInBounds_toArray, List.set_cons_zero, List.set_cons_succ]
  refine wpAnyT_ready (rs := [12]) (by kernel_rfl) (by simp) (AllReadyT.cons rfl (fun K2 hK2 => ?_) AllReadyT.nil)
  go_simp
  have hb1w : Below w.heap.size w ((w.alloc (.cells #[.int .i64 n] 3)).drew) := ((Below.refl _ _).alloc (Nat.le_refl _) _).trans ⟨rfl, rfl, rfl, Nat.le_refl _, fun _ _ => rfl⟩
  have hcn : ((w.alloc (.cells #[.int .i64 n] 3)).drew).cell? ⟨w.heap.size, 0, none⟩ = some (.int .i64 n) := cell_new w #[.int .i64 n] 3 0
  have q0 := below_cell hb1w hf1 (World.block_lt_of_cell? w _ hf1)
  have q1 := below_cell hb1w hp (World.block_lt_of_cell? w _ hp)
  have q2 := below_cell hb1w f1 hBl
  have q3 := below_cell hb1w f2 hBl
  have HB1 := Lib.hid hb1w; have HCN := Lib.hid hcn
  clear hb1w hcn hHeld
  refine hK2.out _ _ ⟨q0, q1, q2, q3⟩ (fun _ => ?_)
  clear q0 q1 q2 q3
  refine wpAnyT_ready (rs := [13]) (by kernel_rfl) (by simp) (AllReadyT.cons rfl (fun K3 hK3 => ?_) AllReadyT.nil)
  go_simp
  refine Calls.mono (HTN.out _ _ HB1.out HCN.out) ?_
  rintro r w2 ⟨rfl, hb2⟩
  have hb3 := HB1.out.trans (hb2.mono HB1.out.size)
  have q0 := below_cell hb3 hf1 (World.block_lt_of_cell? w _ hf1)
  have q1 := below_cell hb3 hp (World.block_lt_of_cell? w _ hp)
  have q2 := below_cell hb3 f1 hBl
  have p2 := below_cell hb3 f2 hBl
  have p3 := below_cell hb3 f3 hBl
  have HB3 := Lib.hid hb3
  clear hb3 hb2
  refine hK3.out _ _ ⟨q0, q1, q2, p2⟩ (fun _ => ?_)
  refine wpAnyT_tail 14 (by simp) rfl (by simp) (by kernel_rfl) ?_
  simp only [List.drop_succ_cons, List.drop_zero]
  go_wp2_with fail
  go_quiet (fail)
  have hdd : Below w.heap.size w (w2.drewN nq) := HB3.out.trans ⟨rfl, rfl, rfl, Nat.le_refl _, fun _ _ => rfl⟩
  have hb4 : Below w.heap.size w ((w2.drewN nq).alloc (.cells #[.int .i64 m] 3)) := hdd.alloc hdd.size _
  have HB4 := Lib.hid hb4; have HC4 := Lib.hid (cell_new (w2.drewN nq) #[.int .i64 m] 3 0)
  clear hb4 hdd
  go_wp2_with (go_at_call 15; refine (HTM.out _ _ HB4.out HC4.out).mono ?_; rintro r w5 ⟨rfl, hb5⟩)
  go_ret
  refine ⟨ret_str ?_, HB4.out.trans (hb5.mono HB4.out.size)⟩
  show (((kf ++ (⟨#[32]⟩ : ByteArray)) ++ sn) ++ ((⟨#[46, 46]⟩ : ByteArray) ++ sm)).data.toList = txt (.test f n m)
  rw [data_app, data_app, data_app, data_app, HSN.out, HSM.out, HKF.out]
  simp only [txt]
  rw [if_neg HNM.out]
set_option maxHeartbeats 2000000 in
set_option maxRecDepth 100000 in
theorem rtext_has {lo f B : Nat} {n : Int} (hf : f < 5) (hn : NumOk n) (w : World) (hE : EnvF lo w) (h : w.heap[B]? = some (fltObj kHas f n n (.slice none 0 0))) :
    Calls Tryd.prog 8 #[ptrP B] w (RTP w (txt (.has f n))) := by
  have hlo := hE.hi
  have hBl := (Array.getElem?_eq_some_iff.1 h).1
  obtain ⟨fb, fo, fc, hf1, hf2, hf3⟩ := hE.rf
  obtain ⟨kf, hkf⟩ : ∃ kf, kf = kField f := ⟨_, rfl⟩
  have hk4 : kf.size ≤ 4 := by rw [hkf]; have := kField_len f; simpa using this
  have hp : w.cell? ⟨fb, fo + f, none⟩ = some (.string kf) := (hf3 f hf).trans (by rw [hkf])
  obtain ⟨sn, hsn⟩ : ∃ sn, sn = bs (Lib.itoa n) := ⟨_, rfl⟩
  have hn21 : sn.size ≤ 21 := by rw [hsn]; exact itoa_size hn
  have htn : ∀ W b, Below w.heap.size w W → W.cell? ⟨b, 0, none⟩ = some (.int .i64 n) → Calls Tryd.prog 15 #[.slice (some ⟨b, 0, none⟩) 1 1] W fun e w' => e = .returned (.string sn) ∧ Below W.heap.size W w' := fun W b hb hc => by rw [hsn]; exact told_one hn W (hE.below (hb.mono hlo)) hc
  obtain ⟨f0, f1, f2, f3, f4, e0, e1, e2, e3, e4⟩ := block5 h
  have f0l : w.cell? ⟨B, 0, none⟩ = some (.string ⟨#[104, 97, 115]⟩) := f0
  have HTN := Lib.hid htn; have HSN := Lib.hid hsn; have HKF := Lib.hid hkf; have H := Lib.hid h
  clear htn hsn hkf hf3 hE f0 h e0 e1 e2 e3 e4
  go_enter Tryd.func8, Tryd.ntmps8
  go_wp2_with fail
  refine wp_region_late (fun W => W.cell? ⟨0, 0, none⟩ = some (.slice (some ⟨fb, fo, none⟩) 5 fc) ∧ W.cell? ⟨fb, fo + f, none⟩ = some (.string kf) ∧ W.cell? ⟨B, 1, none⟩ = some (.int .i64 f) ∧ W.cell? ⟨B, 2, none⟩ = some (.int .i64 n)) [14] rfl ⟨hf1, hp, f1, f2⟩ (fun hHeld => ?_)
  refine wpAnyT_takeD (i := 0) (d := 51) (oi := _) (v := ?zv27) rfl rfl (by kernel_rfl) (fun _ _ _ h => h) (Or.inl ⟨by rfl, ?zy27⟩) (by assumption) ?zr27
  case zy27 => (intro w hSw; (try dsimp only at hSw); go_split_ands; go_simp; (try rw [if_pos (by omega)]); (try go_simp); try with_reducible rfl)
  simp only [List.setIfInBounds_toArray, List.set_cons_zero, List.set_cons_succ]
  refine wpAnyT_takePD (i := 1) (d := 52) (oi := _) (v := ?zv28) rfl rfl (by kernel_rfl) (fun _ _ _ h => h) (Or.inl ⟨by rfl, ?zy28⟩) (by assumption) ?zr28
  case zy28 => (intro w hSw; (try dsimp only at hSw); go_split_ands; go_simp; (try rw [if_pos (by omega)]); (try go_simp); try with_reducible rfl)
  simp only [List.setIfInBounds_toArray, List.set_cons_zero, List.set_cons_succ]
  refine wpAnyT_takePD (i := 2) (d := 53) (oi := _) (v := ?zv29) rfl rfl (by kernel_rfl) (fun _ _ _ h => h) (Or.inl ⟨by rfl, ?zy29⟩) (by assumption) ?zr29
  case zy29 => (intro w hSw; (try dsimp only at hSw); go_split_ands; go_simp; (try rw [if_pos (by omega)]); (try go_simp); try with_reducible rfl)
  simp only [List.setIfInBounds_toArray, List.set_cons_zero, List.set_cons_succ]
  refine wpAnyT_takePD (i := 3) (d := 54) (oi := _) (v := ?zv30) rfl rfl (by kernel_rfl) (fun _ _ _ h => h) (Or.inl ⟨by rfl, ?zy30⟩) (by assumption) ?zr30
  case zy30 => (intro w hSw; (try dsimp only at hSw); go_split_ands; go_simp; (try rw [if_pos (by omega)]); (try go_simp); try with_reducible rfl)
  simp only [List.setIfInBounds_toArray, List.set_cons_zero, List.set_cons_succ]
  refine wpAnyT_takeD (i := 4) (d := 55) (oi := _) (v := ?zv31) rfl rfl (by kernel_rfl) (fun _ _ _ h => h) (Or.inl ⟨by rfl, ?zy31⟩) (by assumption) ?zr31
  case zy31 => (intro w hSw; (try dsimp only at hSw); go_split_ands; go_simp; (try rw [if_pos (by omega)]); (try go_simp); try with_reducible rfl)
  simp only [List.setIfInBounds_toArray, List.set_cons_zero, List.set_cons_succ]
  refine wpAnyT_takePD (i := 5) (d := 56) (oi := _) (v := ?zv32) rfl rfl (by kernel_rfl) (fun _ _ _ h => h) (Or.inl ⟨by rfl, ?zy32⟩) (by assumption) ?zr32
  case zy32 => (intro w hSw; (try dsimp only at hSw); go_split_ands; go_simp; (try rw [if_pos (by omega)]); (try go_simp); try with_reducible rfl)
  simp only [List.setIfInBounds_toArray, List.set_cons_zero, List.set_cons_succ]
  refine wpAnyT_takeD (i := 6) (d := 57) (oi := _) (v := ?zv33) rfl rfl (by kernel_rfl) (fun _ _ _ h => h) (Or.inl ⟨by rfl, ?zy33⟩) (by assumption) ?zr33
  case zy33 => (intro w hSw; (try dsimp only at hSw); go_split_ands; go_simp; (try rw [if_pos (by omega)]); (try go_simp); try with_reducible rfl)
  simp only [List.setIfInBounds_toArray, List.set_cons_zero, List.set_cons_succ]
  refine wpAnyT_takePD (i := 7) (d := 58) (oi := _) (v := ?zv34) rfl rfl (by kernel_rfl) (fun _ _ _ h => h) (Or.inl ⟨by rfl, ?zy34⟩) (by assumption) ?zr34
  case zy34 => (intro w hSw; (try dsimp only at hSw); go_split_ands; go_simp; (try rw [if_neg (by omega)]); (try go_simp); try with_reducible rfl)
  simp only [List.setIfInBounds_toArray, List.set_cons_zero, List.set_cons_succ]
  refine wpAnyT_takePD (i := 8) (d := 59) (oi := _) (v := ?zv35) rfl rfl (by kernel_rfl) (fun _ _ _ h => h) (Or.inl ⟨by rfl, ?zy35⟩) (by assumption) ?zr35
  case zy35 => (intro w hSw; (try dsimp only at hSw); go_split_ands; go_simp; (try rw [if_pos (by omega)]); (try go_simp); try with_reducible rfl)
  simp only [List.setIfInBounds_toArray, List.set_cons_zero, List.set_cons_succ]
  refine wpAnyT_takePD (i := 9) (d := 60) (oi := _) (v := ?zv36) rfl rfl (by kernel_rfl) (fun _ _ _ h => h) (Or.inl ⟨by rfl, ?zy36⟩) (by assumption) ?zr36
  case zy36 => (intro w hSw; (try dsimp only at hSw); go_split_ands; go_simp; (try rw [if_pos (by omega)]); (try go_simp); try with_reducible rfl)
  simp only [List.setIfInBounds_toArray, List.set_cons_zero, List.set_cons_succ]
  refine wpAnyT_takePD (i := 10) (d := 61) (oi := _) (v := ?zv37) rfl rfl (by kernel_rfl) (fun _ _ _ h => h) (Or.inl ⟨by rfl, ?zy37⟩) (by assumption) ?zr37
  case zy37 => (intro w hSw; (try dsimp only at hSw); go_split_ands; go_simp; (try rw [if_pos (by omega)]); (try go_simp); try with_reducible rfl)
  simp only [List.setIfInBounds_toArray, List.set_cons_zero, List.set_cons_succ]
  refine wpAnyT_takeD (i := 11) (d := 62) (oi := _) (v := ?zv38) rfl rfl (by kernel_rfl) (fun _ _ _ h => h) (Or.inl ⟨by rfl, ?zy38⟩) (by assumption) ?zr38
  case zy38 => (intro w hSw; (try dsimp only at hSw); go_split_ands; go_simp; (try rw [if_pos (by omega)]); (try go_simp); try with_reducible rfl)
  simp only [List.setIfInBounds_toArray, List.set_cons_zero, List.set_cons_succ]
  refine wpAnyT_ready (rs := [12]) (by kernel_rfl) (by simp) (AllReadyT.cons rfl (fun K2 hK2 => ?_) AllReadyT.nil)
  go_simp
  have hb1w : Below w.heap.size w ((w.alloc (.cells #[.int .i64 n] 3)).drew) := ((Below.refl _ _).alloc (Nat.le_refl _) _).trans ⟨rfl, rfl, rfl, Nat.le_refl _, fun _ _ => rfl⟩
  have hcn : ((w.alloc (.cells #[.int .i64 n] 3)).drew).cell? ⟨w.heap.size, 0, none⟩ = some (.int .i64 n) := cell_new w #[.int .i64 n] 3 0
  have q0 := below_cell hb1w hf1 (World.block_lt_of_cell? w _ hf1)
  have q1 := below_cell hb1w hp (World.block_lt_of_cell? w _ hp)
  have q2 := below_cell hb1w f1 hBl
  have q3 := below_cell hb1w f2 hBl
  have HB1 := Lib.hid hb1w; have HCN := Lib.hid hcn
  clear hb1w hcn hHeld
  refine hK2.out _ _ ⟨q0, q1, q2, q3⟩ (fun _ => ?_)
  clear q0 q1 q2 q3
  refine wpAnyT_ready (rs := [13]) (by kernel_rfl) (by simp) (AllReadyT.cons rfl (fun K3 hK3 => ?_) AllReadyT.nil)
  go_simp
  refine Calls.mono (HTN.out _ _ HB1.out HCN.out) ?_
  rintro r w2 ⟨rfl, hb2⟩
  have hb3 := HB1.out.trans (hb2.mono HB1.out.size)
  have q0 := below_cell hb3 hf1 (World.block_lt_of_cell? w _ hf1)
  have q1 := below_cell hb3 hp (World.block_lt_of_cell? w _ hp)
  have q2 := below_cell hb3 f1 hBl
  have p2 := below_cell hb3 f2 hBl
  have p3 := below_cell hb3 f3 hBl
  have HB3 := Lib.hid hb3
  clear hb3 hb2
  refine hK3.out _ _ ⟨q0, q1, q2, p2⟩ (fun _ => ?_)
  refine wpAnyT_tail 14 (by simp) rfl (by simp) (by kernel_rfl) ?_
  simp only [List.drop_succ_cons, List.drop_zero]
  go_wp2_with fail
  go_ret
  refine ⟨ret_str ?_, HB3.out⟩
  show ((kf ++ (⟨#[32, 104, 97, 115, 32]⟩ : ByteArray)) ++ sn).data.toList = txt (.has f n)
  rw [data_app, data_app, HSN.out, HKF.out]
  simp only [txt]
set_option maxRecDepth 100000 in
theorem rtext_not {B g c k : Nat} {s : List UInt8} {w : World} (h : w.heap[B]? = some (fltObj kNot 0 0 0 (.slice (some ⟨g, 0, none⟩) 1 c))) (hgc : w.cell? ⟨g, 0, none⟩ = some (ptrP k)) (hs : s.length ≤ 1000000)
    (hk : Calls Tryd.prog 8 #[ptrP k] w (RTP w s)) : Calls Tryd.prog 8 #[ptrP B] w (RTP w ([110, 111, 116, 32] ++ s)) := by
  obtain ⟨f0, f1, f2, f3, f4, e0, e1, e2, e3, e4⟩ := block5 h
  have f0l : w.cell? ⟨B, 0, none⟩ = some (.string ⟨#[110, 111, 116]⟩) := f0
  unfold RTP at hk
  obtain ⟨sb, hsb⟩ : ∃ sb, sb = bs s := ⟨_, rfl⟩
  rw [← hsb] at hk
  have hsz : sb.size ≤ 1000000 := by rw [hsb]; simpa [ByteArray.size] using hs
  have HK := Lib.hid hk; have HS := Lib.hid hsb
  clear f0 h hk hsb hs
  go_enter Tryd.func8, Tryd.ntmps8
  go_wp2_with (go_at_call 8; refine HK.out.mono ?_; rintro r w2 ⟨rfl, hb2⟩)
  go_ret
  exact ⟨ret_str (by show ((⟨#[110, 111, 116, 32]⟩ : ByteArray) ++ sb).data.toList = _; rw [data_app, HS.out]; rfl), hb2⟩
theorem join_take_succ {L : List (List UInt8)} {sep : List UInt8} {k : Nat} (h : k < L.length) (h0 : 0 < k) : Lib.join (L.take (k + 1)) sep = Lib.join (L.take k) sep ++ sep ++ L[k] := by
  cases L with
  | nil => simp at h
  | cons x r =>
    obtain ⟨j, rfl⟩ : ∃ j, k = j + 1 := ⟨k - 1, by omega⟩
    have hj : j < r.length := by simpa using h
    rw [List.take_succ_cons, List.take_succ_cons, Lib.join_cons, Lib.join_cons, Lib.joinTail_take_succ sep r j r[j] (List.getElem?_eq_getElem hj)]
    simp [List.append_assoc]
theorem join_take_le {L : List (List UInt8)} {sep : List UInt8} (k : Nat) : (Lib.join (L.take k) sep).length ≤ (Lib.join L sep).length := by
  cases L with
  | nil => simp
  | cons x r =>
    cases k with
    | zero => simp [Lib.join_nil]
    | succ j =>
      rw [List.take_succ_cons, Lib.join_cons, Lib.join_cons, List.length_append, List.length_append]
      have := Lib.joinTail_take_le sep r j
      omega
set_option maxHeartbeats 2000000 in
set_option maxRecDepth 100000 in
theorem rtext_true {B g c n : Nat} {L : List (List UInt8)} {w : World} (hL : L.length = n) (hn : n ≤ 200000) (hj : (Lib.join L (sepOf true)).length ≤ 1000000) (h : w.heap[B]? = some (fltObj (if true then kOr else kAnd) 0 0 0 (.slice (some ⟨g, 0, none⟩) n c)))
    (hk : ∀ W, Below w.heap.size w W → ∀ j (h : j < L.length), ∃ k, W.cell? ⟨g, j, none⟩ = some (ptrP k) ∧ Calls Tryd.prog 8 #[ptrP k] W (RTP W L[j])) :
    Calls Tryd.prog 8 #[ptrP B] w (RTP w ([40] ++ Lib.join L (sepOf true) ++ [41])) := by
  have h : w.heap[B]? = some (fltObj kOr 0 0 0 (.slice (some ⟨g, 0, none⟩) n c)) := h
  have hBl := (Array.getElem?_eq_some_iff.1 h).1
  obtain ⟨f0, f1, f2, f3, f4, e0, e1, e2, e3, e4⟩ := block5 h
  have f0l : w.cell? ⟨B, 0, none⟩ = some (.string ⟨#[111, 114]⟩) := f0
  have hjk : ∀ k, (bs (Lib.join (L.take k) (sepOf true))).size ≤ 1000000 := fun k => by
    have h1 := join_take_le (L := L) (sep := sepOf true) k
    have h2 : (bs (Lib.join (L.take k) (sepOf true))).size = (Lib.join (L.take k) (sepOf true)).length := by simp [ByteArray.size]
    omega
  have HK := Lib.hid hk; have HL := Lib.hid hL; have HJK := Lib.hid hjk; have H := Lib.hid h
  clear hk hL hjk hj f0 h e0 e1 e2 e3 e4
  go_enter Tryd.func8, Tryd.ntmps8
  go_wp2_with fail
  go_loopg [4, 81] n (fun gk sv kv W => Below w.heap.size w W ∧ ∃ k : Nat, kv = .int .i64 k ∧ k + gk = n ∧ sv = .string (bs (Lib.join (L.take k) (sepOf true))))
  case atStart => exact ⟨Below.refl _ _, 0, rfl, by omega, rfl⟩
  case round =>
    obtain ⟨hb, k, rfl, hkg, hsv⟩ := hrel
    obtain ⟨ob, hob⟩ : ∃ ob, ob = bs (Lib.join (L.take k) (sepOf true)) := ⟨_, rfl⟩
    rw [← hob] at hsv
    subst hsv
    have hobs : ob.size ≤ 1000000 := by rw [hob]; exact HJK.out k
    clear f0l f1 f2 f3 f4
    obtain ⟨f0, f1, f2, f3, f4, e0, e1, e2, e3, e4⟩ := block5 ((hb.block B hBl).trans H.out)
    have f0l : wr.cell? ⟨B, 0, none⟩ = some (.string ⟨#[111, 114]⟩) := f0
    have HB := Lib.hid hb; have HOB := Lib.hid hob
    clear hb hob f0 e0 e1 e2 e3 e4
    by_cases hlt : k < n
    · obtain ⟨m, rfl⟩ : ∃ m, gk = m + 1 := ⟨gk - 1, by omega⟩
      have hkL : k < L.length := by rw [HL.out]; exact hlt
      obtain ⟨kb, hc, hcall⟩ := HK.out wr HB.out k hkL
      unfold RTP at hcall
      obtain ⟨sb, hsb⟩ : ∃ sb, sb = bs L[k] := ⟨_, rfl⟩
      rw [← hsb] at hcall
      have hnx : (bs (Lib.join (L.take (k + 1)) (sepOf true))).size ≤ 1000000 := HJK.out (k + 1)
      have HC := Lib.hid hcall; have HSB := Lib.hid hsb
      by_cases hk0 : k = 0
      · subst hk0
        have hj1 : Lib.join (L.take (0 + 1)) (sepOf true) = L[0] := by
          rw [List.take_succ_eq_append_getElem hkL, List.take_zero, List.nil_append, Lib.join_one]
        have hsz : sb.size ≤ 1000000 := by rw [hsb]; rw [hj1] at hnx; exact hnx
        have hob0 : ob.size = 0 := by rw [HOB.out]; rfl
        have HJ1 := Lib.hid hj1; have HO0 := Lib.hid hob0
        clear hcall hsb hnx hj1 hob0
        go_wp2_with (go_at_call 8; refine HC.out.mono ?_; rintro r w2 ⟨rfl, hb2⟩)
        go_roundg m
        case measure => omega
        case rel =>
          refine ⟨HB.out.trans (hb2.mono HB.out.size), 1, by go_num, by omega, ?_⟩
          have e : ob ++ sb = bs (Lib.join (L.take (0 + 1)) (sepOf true)) := by
            rw [bytes_ext, data_app, HOB.out, HSB.out, HJ1.out]; simp [Lib.join_nil]
          exact congrArg Value.string e
      · have hkp : 0 < k := by omega
        have hj1 := join_take_succ (sep := sepOf true) hkL hkp
        have hsz : sb.size ≤ 1000000 := by
          rw [hj1] at hnx
          have : (bs (Lib.join (L.take k) (sepOf true) ++ sepOf true ++ L[k])).size = (Lib.join (L.take k) (sepOf true)).length + (sepOf true).length + L[k].length := by simp [ByteArray.size]; omega
          rw [this] at hnx
          rw [hsb]; have h2 : (bs L[k]).size = L[k].length := by simp [ByteArray.size]
          omega
        have HJ1 := Lib.hid hj1
        clear hcall hsb hnx hj1
        go_wp2_with (go_at_call 8; refine HC.out.mono ?_; rintro r w2 ⟨rfl, hb2⟩)
        go_roundg m
        case measure => omega
        case rel =>
          refine ⟨HB.out.trans (hb2.mono HB.out.size), k + 1, by go_num, by omega, ?_⟩
          have e : (ob ++ (((⟨#[32]⟩ : ByteArray) ++ (⟨#[111, 114]⟩ : ByteArray)) ++ (⟨#[32]⟩ : ByteArray))) ++ sb = bs (Lib.join (L.take (k + 1)) (sepOf true)) := by
            rw [bytes_ext, data_app, data_app, data_app, data_app, HOB.out, HSB.out, HJ1.out]; simp [sepOf]
          exact congrArg Value.string e
    · obtain rfl : k = n := by omega
      go_wp2
      go_ret
      refine ⟨ret_str ?_, HB.out⟩
      show (((⟨#[40]⟩ : ByteArray) ++ ob) ++ (⟨#[41]⟩ : ByteArray)).data.toList = _
      rw [data_app, data_app, HOB.out, List.take_of_length_le (by rw [HL.out]; omega)]; rfl
set_option maxHeartbeats 2000000 in
set_option maxRecDepth 100000 in
theorem rtext_false {B g c n : Nat} {L : List (List UInt8)} {w : World} (hL : L.length = n) (hn : n ≤ 200000) (hj : (Lib.join L (sepOf false)).length ≤ 1000000) (h : w.heap[B]? = some (fltObj (if false then kOr else kAnd) 0 0 0 (.slice (some ⟨g, 0, none⟩) n c)))
    (hk : ∀ W, Below w.heap.size w W → ∀ j (h : j < L.length), ∃ k, W.cell? ⟨g, j, none⟩ = some (ptrP k) ∧ Calls Tryd.prog 8 #[ptrP k] W (RTP W L[j])) :
    Calls Tryd.prog 8 #[ptrP B] w (RTP w ([40] ++ Lib.join L (sepOf false) ++ [41])) := by
  have h : w.heap[B]? = some (fltObj kAnd 0 0 0 (.slice (some ⟨g, 0, none⟩) n c)) := h
  have hBl := (Array.getElem?_eq_some_iff.1 h).1
  obtain ⟨f0, f1, f2, f3, f4, e0, e1, e2, e3, e4⟩ := block5 h
  have f0l : w.cell? ⟨B, 0, none⟩ = some (.string ⟨#[97, 110, 100]⟩) := f0
  have hjk : ∀ k, (bs (Lib.join (L.take k) (sepOf false))).size ≤ 1000000 := fun k => by
    have h1 := join_take_le (L := L) (sep := sepOf false) k
    have h2 : (bs (Lib.join (L.take k) (sepOf false))).size = (Lib.join (L.take k) (sepOf false)).length := by simp [ByteArray.size]
    omega
  have HK := Lib.hid hk; have HL := Lib.hid hL; have HJK := Lib.hid hjk; have H := Lib.hid h
  clear hk hL hjk hj f0 h e0 e1 e2 e3 e4
  go_enter Tryd.func8, Tryd.ntmps8
  go_wp2_with fail
  go_loopg [4, 81] n (fun gk sv kv W => Below w.heap.size w W ∧ ∃ k : Nat, kv = .int .i64 k ∧ k + gk = n ∧ sv = .string (bs (Lib.join (L.take k) (sepOf false))))
  case atStart => exact ⟨Below.refl _ _, 0, rfl, by omega, rfl⟩
  case round =>
    obtain ⟨hb, k, rfl, hkg, hsv⟩ := hrel
    obtain ⟨ob, hob⟩ : ∃ ob, ob = bs (Lib.join (L.take k) (sepOf false)) := ⟨_, rfl⟩
    rw [← hob] at hsv
    subst hsv
    have hobs : ob.size ≤ 1000000 := by rw [hob]; exact HJK.out k
    clear f0l f1 f2 f3 f4
    obtain ⟨f0, f1, f2, f3, f4, e0, e1, e2, e3, e4⟩ := block5 ((hb.block B hBl).trans H.out)
    have f0l : wr.cell? ⟨B, 0, none⟩ = some (.string ⟨#[97, 110, 100]⟩) := f0
    have HB := Lib.hid hb; have HOB := Lib.hid hob
    clear hb hob f0 e0 e1 e2 e3 e4
    by_cases hlt : k < n
    · obtain ⟨m, rfl⟩ : ∃ m, gk = m + 1 := ⟨gk - 1, by omega⟩
      have hkL : k < L.length := by rw [HL.out]; exact hlt
      obtain ⟨kb, hc, hcall⟩ := HK.out wr HB.out k hkL
      unfold RTP at hcall
      obtain ⟨sb, hsb⟩ : ∃ sb, sb = bs L[k] := ⟨_, rfl⟩
      rw [← hsb] at hcall
      have hnx : (bs (Lib.join (L.take (k + 1)) (sepOf false))).size ≤ 1000000 := HJK.out (k + 1)
      have HC := Lib.hid hcall; have HSB := Lib.hid hsb
      by_cases hk0 : k = 0
      · subst hk0
        have hj1 : Lib.join (L.take (0 + 1)) (sepOf false) = L[0] := by
          rw [List.take_succ_eq_append_getElem hkL, List.take_zero, List.nil_append, Lib.join_one]
        have hsz : sb.size ≤ 1000000 := by rw [hsb]; rw [hj1] at hnx; exact hnx
        have hob0 : ob.size = 0 := by rw [HOB.out]; rfl
        have HJ1 := Lib.hid hj1; have HO0 := Lib.hid hob0
        clear hcall hsb hnx hj1 hob0
        go_wp2_with (go_at_call 8; refine HC.out.mono ?_; rintro r w2 ⟨rfl, hb2⟩)
        go_roundg m
        case measure => omega
        case rel =>
          refine ⟨HB.out.trans (hb2.mono HB.out.size), 1, by go_num, by omega, ?_⟩
          have e : ob ++ sb = bs (Lib.join (L.take (0 + 1)) (sepOf false)) := by
            rw [bytes_ext, data_app, HOB.out, HSB.out, HJ1.out]; simp [Lib.join_nil]
          exact congrArg Value.string e
      · have hkp : 0 < k := by omega
        have hj1 := join_take_succ (sep := sepOf false) hkL hkp
        have hsz : sb.size ≤ 1000000 := by
          rw [hj1] at hnx
          have : (bs (Lib.join (L.take k) (sepOf false) ++ sepOf false ++ L[k])).size = (Lib.join (L.take k) (sepOf false)).length + (sepOf false).length + L[k].length := by simp [ByteArray.size]; omega
          rw [this] at hnx
          rw [hsb]; have h2 : (bs L[k]).size = L[k].length := by simp [ByteArray.size]
          omega
        have HJ1 := Lib.hid hj1
        clear hcall hsb hnx hj1
        go_wp2_with (go_at_call 8; refine HC.out.mono ?_; rintro r w2 ⟨rfl, hb2⟩)
        go_roundg m
        case measure => omega
        case rel =>
          refine ⟨HB.out.trans (hb2.mono HB.out.size), k + 1, by go_num, by omega, ?_⟩
          have e : (ob ++ (((⟨#[32]⟩ : ByteArray) ++ (⟨#[97, 110, 100]⟩ : ByteArray)) ++ (⟨#[32]⟩ : ByteArray))) ++ sb = bs (Lib.join (L.take (k + 1)) (sepOf false)) := by
            rw [bytes_ext, data_app, data_app, data_app, data_app, HOB.out, HSB.out, HJ1.out]; simp [sepOf]
          exact congrArg Value.string e
    · obtain rfl : k = n := by omega
      go_wp2
      go_ret
      refine ⟨ret_str ?_, HB.out⟩
      show (((⟨#[40]⟩ : ByteArray) ++ ob) ++ (⟨#[41]⟩ : ByteArray)).data.toList = _
      rw [data_app, data_app, HOB.out, List.take_of_length_le (by rw [HL.out]; omega)]; rfl
mutual
theorem rast_ok {S : Nat → Prop} {W : World} : ∀ {A : Ast} {B : Nat}, RAst S W B A → AstOk A
  | .any, _, _ => trivial
  | .test f lo hi, v, h => by unfold RAst at h; exact ⟨h.2.2.1, h.2.2.2.1⟩
  | .has f lo, v, h => by unfold RAst at h; exact h.2.2.1
  | .not A, v, h => by unfold RAst at h; obtain ⟨_, g, c, _, _, k, _, h1⟩ := h; unfold AstOk; exact rast_ok h1
  | .several o l, v, h => by unfold RAst at h; obtain ⟨_, _, g, c, _, _, h1⟩ := h; unfold AstOk; exact rasts_ok h1
theorem rasts_ok {S : Nat → Prop} {W : World} : ∀ {l : List Ast} {g i : Nat}, RKids S W g i l → AstsOk l
  | [], _, _, _ => trivial
  | A :: l, g, i, h => by
    unfold RKids at h
    obtain ⟨⟨u, _, h2⟩, h3⟩ := h
    unfold AstsOk
    exact ⟨rast_ok h2, rasts_ok h3⟩
end
mutual
/-- Text of the document's filters. -/
theorem rtext {lo : Nat} {S : Nat → Prop} : ∀ {A : Ast} {w : World} {B : Nat}, RAst S w B A → EnvF lo w → wgt A ≤ 10000 → Calls Tryd.prog 8 #[ptrP B] w (RTP w (txt A))
  | .any, w, B, h, _, _ => by unfold RAst at h; exact rtext_any h.2
  | .test f n m, w, B, h, hE, _ => by
    unfold RAst at h
    obtain ⟨_, h1, h2, h3, h4⟩ := h
    by_cases hnm : m = n
    · subst hnm; exact rtext_eq h1 h2 w hE h4
    · exact rtext_ne h1 h2 h3 hnm w hE h4
  | .has f n, w, B, h, hE, _ => by
    unfold RAst at h
    obtain ⟨_, h1, h2, h4⟩ := h
    exact rtext_has h1 h2 w hE h4
  | .not A, w, B, h, hE, hw => by
    unfold RAst at h
    obtain ⟨_, g, c, h1, _, k, h2, h3⟩ := h
    simp only [wgt] at hw
    have hl := txt_len (rast_ok h3)
    simp only [txt]
    exact rtext_not h1 h2 (by omega) (rtext h3 hE (by omega))
  | .several o l, w, B, h, hE, hw => by
    have hl := txt_len (rast_ok h)
    unfold RAst at h
    obtain ⟨_, h0, g, c, h1, _, h2⟩ := h
    have hw2 : wgt (.several o l) = 2 + wgts l := by simp only [wgt]
    rw [hw2] at hw hl
    have hgl : g < w.heap.size := by
      cases l with
      | nil => exact absurd h0.1 (by simp)
      | cons x l => have h5 := h2; unfold RKids at h5; obtain ⟨⟨_, h6, _⟩, _⟩ := h5; exact World.block_lt_of_cell? w _ h6
    have hks := fun (W : World) (hb : Below w.heap.size w W) => rtexts (lo := lo) (RKids.kept (S' := fun _ => True) (fun b _ hlt => ⟨trivial, hb.block b hlt⟩) (hb.block g hgl) h2) (hE.below (hb.mono hE.hi)) (by omega)
    simp only [txt] at hl ⊢
    simp only [List.length_append, List.length_cons, List.length_nil] at hl
    cases o with
    | true => exact rtext_true (L := txts l) (txts_length l) h0.2 (by omega) h1 (fun W hb j hj => by have := hks W hb j hj; rwa [Nat.zero_add] at this)
    | false => exact rtext_false (L := txts l) (txts_length l) h0.2 (by omega) h1 (fun W hb j hj => by have := hks W hb j hj; rwa [Nat.zero_add] at this)
theorem rtexts {lo : Nat} {S : Nat → Prop} : ∀ {l : List Ast} {w : World} {g i : Nat}, RKids S w g i l → EnvF lo w → wgts l ≤ 10000 → ∀ j (h : j < (txts l).length), ∃ k, w.cell? ⟨g, i + j, none⟩ = some (ptrP k) ∧ Calls Tryd.prog 8 #[ptrP k] w (RTP w (txts l)[j])
  | [], _, _, _, _, _, _, j, hj => by simp [txts] at hj
  | A :: l, w, g, i, h, hE, hw, j, hj => by
    unfold RKids at h
    obtain ⟨⟨u, h1, h2⟩, h3⟩ := h
    simp only [wgts] at hw
    cases j with
    | zero =>
      refine ⟨u, h1, ?_⟩
      have := rtext (lo := lo) h2 hE (by omega)
      simpa only [txts, List.getElem_cons_zero] using this
    | succ j =>
      have hj2 : j < (txts l).length := by simp only [txts, List.length_cons] at hj; omega
      obtain ⟨u', h4, h5⟩ := rtexts (lo := lo) h3 hE (by omega) j hj2
      refine ⟨u', by rw [show i + (j + 1) = i + 1 + j by omega]; exact h4, ?_⟩
      simpa only [txts, List.getElem_cons_succ] using h5
end
end Go.Proofs.YtfjfbiocjloilaaDoor
