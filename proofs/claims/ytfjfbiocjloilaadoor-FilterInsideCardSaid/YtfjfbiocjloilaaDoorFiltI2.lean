/-
  What is proved here: the document's filter with not ahead of tests alone (11.3): several, and the whole.
-/
import Derived.Test.YtfjfbiocjloilaaDoorFiltI1
namespace Go.Proofs.YtfjfbiocjloilaaDoor
open Go.RowKit Go.Sort

/-- What the new filter's row holds. -/
def InS (N : Nat) (w : World) (kv : Value) (b : Nat) : Prop := (b < N ∨ w.heap.size ≤ b) ∧ b ≠ w.heap.size ∧ kv.ownBlock ≠ some b
def InRel (N : Nat) (w W : World) (k : Nat) (kd : ByteArray) (kv : Value) (ks : List Nat) (l : List Ast) : Prop :=
  Below w.heap.size w W ∧ W.heap[w.heap.size]? = some (fltObj kd 0 0 0 kv) ∧ W.ownsRow (w.heap.size + 1) tPtr 1 kv k (ks.map ptrP) ∧ ks.length = k ∧ KidsL (InS N w kv) W ks l
theorem in_round {N : Nat} {w wr w5 w6 : World} {k g1 cp1 B : Nat} {kd : ByteArray} {kv : Value} {ks : List Nat} {l : List Ast} {a : Ast} (hN : N ≤ w.heap.size) (h : InRel N w wr k kd kv ks l) (hb5 : Below wr.heap.size wr w5)
    (hr : RAst (fun b => b < N ∨ wr.heap.size ≤ b) w5 B a) (ho6 : w6.ownsRow (w.heap.size + 1) tPtr 1 (.slice (some ⟨g1, 0, none⟩) (k + 1) cp1) (k + 1) (ks.map ptrP ++ [ptrP B])) (hgr6 : w5.grownBy w6 kv.ownBlock)
    (hat6 : kv.ownBlock = some g1 ∨ g1 = w5.heap.size + 1) :
    InRel N w (w6.setCell ⟨w.heap.size, 4, none⟩ (.slice (some ⟨g1, 0, none⟩) (k + 1) cp1)) (k + 1) kd (.slice (some ⟨g1, 0, none⟩) (k + 1) cp1) (ks ++ [B]) (l ++ [a]) := by
  obtain ⟨hb, hf, ho, hks, hk⟩ := h
  have hkv : ∀ b, kv.ownBlock = some b → w.heap.size + 1 ≤ b ∧ b < wr.heap.size := fun b hb => ho.lt b hb
  have hFl : w.heap.size < wr.heap.size := (Array.getElem?_eq_some_iff.1 hf).1
  have hs5 := hb5.size
  have hs6 := hgr6.size
  have hgF : w.heap.size + 1 ≤ g1 := by
    rcases hat6 with h | h
    · exact (hkv _ h).1
    · omega
  have hf5 := (hb5.block _ hFl).trans hf
  have hf6 : w6.heap[w.heap.size]? = some (fltObj kd 0 0 0 kv) := (hgr6.block _ (by omega) (fun e => by have := (hkv _ e.symm).1; omega)).trans hf5
  have hset := fun (k : Nat) (hk : k ≠ w.heap.size) => Below.heap_setCell w6 ⟨w.heap.size, 4, none⟩ (.slice (some ⟨g1, 0, none⟩) (k + 1) cp1) k hk
  have hset2 : ∀ b, b ≠ w.heap.size → (w6.setCell ⟨w.heap.size, 4, none⟩ (.slice (some ⟨g1, 0, none⟩) (k + 1) cp1)).heap[b]? = w6.heap[b]? := fun b hb => Below.heap_setCell w6 ⟨w.heap.size, 4, none⟩ (.slice (some ⟨g1, 0, none⟩) (k + 1) cp1) b hb
  refine ⟨?_, block5_set4 hf6, ?_, by simp [hks], KidsL.snoc (hr.kept fun b hb' hlt => ?_) (hk.kept fun b hb' hlt => ?_)⟩
  · refine RowKit.Below.setCell (a := w) ⟨(hgr6.os.trans hb5.os).trans hb.os, (hgr6.tape.trans hb5.tape).trans hb.tape, (hgr6.output.trans hb5.output).trans hb.output, by have := hb.size; omega, fun q hq => ((hgr6.block q (by omega) (fun e => by have := (hkv q e.symm).1; omega)).trans (hb5.block q (by omega))).trans (hb.block q hq)⟩ (Nat.le_refl _) _
  · have := ho6.kept (grownBy_setCell (b := w.heap.size) (grownBy_refl _ _) 4 (.slice (some ⟨g1, 0, none⟩) (k + 1) cp1)) (.inr (by simp [Value.ownBlock]; omega))
    simpa using this
  · have hne : g1 ≠ b := fun e => by
      rcases hat6 with h | h
      · have := (hkv _ h).2; have := (hkv _ h).1; omega
      · omega
    refine ⟨⟨by omega, by omega, by simpa [Value.ownBlock] using hne⟩, ?_⟩
    rw [hset2 b (by omega)]
    exact hgr6.block b hlt (fun e => by have := hkv b e.symm; omega)
  · obtain ⟨hb1, hb2, hb3⟩ := hb'
    have hne : g1 ≠ b := fun e => by
      rcases hat6 with h | h
      · exact hb3 (e ▸ h)
      · omega
    refine ⟨⟨hb1, hb2, by simpa [Value.ownBlock] using hne⟩, ?_⟩
    rw [hset2 b hb2]
    exact (hgr6.block b (by omega) (fun e => hb3 e.symm)).trans (hb5.block b hlt)
theorem in_done {N : Nat} {w W : World} {n : Nat} {o : Bool} {kv : Value} {ks : List Nat} {l : List Ast} (h : InRel N w W n (if o then kOr else kAnd) kv ks l) (h0 : 0 < n) (h9 : n ≤ 200000) : RInP N w (.several o l) (.returned (ptrP w.heap.size)) W := by
  obtain ⟨hb, hf, ho, hks, hk⟩ := h
  have hl := hk.len
  obtain ⟨g, c, rfl, hg, hc⟩ := row_cells ho h0 (by simp [hks])
  refine ⟨_, rfl, hb, ?_⟩
  unfold RAst
  refine ⟨.inr (Nat.le_refl _), ⟨by omega, by omega⟩, g, c, by rw [← hl, hks]; exact hf, .inr (by omega), rkids_of (ks := ks) (fun j hj => ?_) (hk.kept fun b hb _ => ⟨hb.1, rfl⟩)⟩
  have := hc j (by simpa using hj)
  simpa using this
theorem block5_set0 {W : World} {b : Nat} {x y z u v x' : Value} {t : TypeId} (h : W.heap[b]? = some (.cells #[x, y, z, u, v] t (0, 0))) :
    (W.setCell ⟨b, 0, none⟩ x').heap[b]? = some (.cells #[x', y, z, u, v] t (0, 0)) := by
  simp [World.setCell, Array.getElem?_modify, h]
theorem below_set0 {w W : World} {v : Value} (h : RowKit.Below w.heap.size w W) : RowKit.Below w.heap.size w (W.setCell ⟨w.heap.size, 0, none⟩ v) := h.setCell (Nat.le_refl _) v
theorem and_sz : kAnd.size ≤ maxLen := by show 3 ≤ maxLen; unfold maxLen; omega
theorem or_sz : kOr.size ≤ maxLen := by show 2 ≤ maxLen; unfold maxLen; omega
theorem zeroStr (w : World) : (zeroValue 9).run Tryd.prog w = .ok (.string ⟨#[]⟩) w := by kernel_rfl
set_option maxHeartbeats 2000000 in
set_option maxRecDepth 100000 in
theorem rin_several_true_false {N B g c n : Nat} {L : List Ast} {w : World} (h : w.heap[B]? = some (fltObj kOr 0 0 0 (.slice (some ⟨g, 0, none⟩) n c))) (hL : L.length = n) (h0 : 0 < n) (hn : n ≤ 200000) (hN : N ≤ w.heap.size)
    (hk : ∀ W, Below w.heap.size w W → ∀ j (h : j < L.length), ∃ k, W.cell? ⟨g, j, none⟩ = some (ptrP k) ∧ Calls Tryd.prog 7 #[ptrP k, .bool false] W (RInP N W L[j])) :
    Calls Tryd.prog 7 #[ptrP B, .bool false] w (RInP N w (.several true L)) := by
  have hBl := (Array.getElem?_eq_some_iff.1 h).1
  obtain ⟨f0, f1, f2, f3, f4, e0, e1, e2, e3, e4⟩ := block5 h
  have f0l : w.cell? ⟨B, 0, none⟩ = some (.string ⟨#[111, 114]⟩) := f0
  have HK := Lib.hid hk; have HL := Lib.hid hL; have H := Lib.hid h
  clear f0 h e0 e1 e2 e3 e4 hk hL
  go_enter Tryd.func7, Tryd.ntmps7
  go_wp2_with fail
  have hS : Below w.heap.size w (w.alloc (fltObj kOr 0 0 0 (.slice none 0 0))) ∧ (w.alloc (fltObj kOr 0 0 0 (.slice none 0 0))).heap[w.heap.size]? = some (fltObj kOr 0 0 0 (.slice none 0 0)) := ⟨(Below.refl _ _).alloc (Nat.le_refl _) _, heap_alloc_new _ _⟩
  refine wp_forget (fun W => Below w.heap.size w W ∧ W.heap[w.heap.size]? = some (fltObj kOr 0 0 0 (.slice none 0 0))) hS ?_
  clear hS
  rintro wS hS
  have HS := Lib.hid hS
  clear hS
  go_loopg [7, 48] n (fun gk xv iv W => ∃ (k : Nat) (kv : Value) (ks : List Nat), k + gk = n ∧ iv = .int .i64 k ∧ InRel N w W k kOr kv ks (L.take k))
  case atStart => exact ⟨0, .slice none 0 0, [], by omega, rfl, HS.out.1, HS.out.2, World.ownsRow_nil _ _ _ _, rfl, trivial⟩
  case round =>
    obtain ⟨k, kv, ks, hkg, rfl, hrel⟩ := hrel
    have hb := hrel.1
    have hf := hrel.2.1
    have hFl : w.heap.size < wr.heap.size := (Array.getElem?_eq_some_iff.1 hf).1
    by_cases hlt : k < n
    · obtain ⟨m, rfl⟩ : ∃ m, gk = m + 1 := ⟨gk - 1, by omega⟩
      have hkL : k < L.length := by rw [HL.out]; exact hlt
      obtain ⟨kb, hc, _⟩ := HK.out wr hb k hkL
      have hbd : Below w.heap.size w wr.drew := hb.trans ⟨rfl, rfl, rfl, Nat.le_refl _, fun _ _ => rfl⟩
      obtain ⟨kb', hc', hcall⟩ := HK.out wr.drew hbd k hkL
      obtain rfl : kb' = kb := by
        have h7 := (show wr.cell? ⟨g, k, none⟩ = some (ptrP kb') from hc').symm.trans hc
        injection h7 with h7; injection h7 with h7; injection h7 with h7; injection h7
      obtain ⟨q0, q1, q2, q3, q4, r0, r1, r2, r3, r4⟩ := block5 hf
      have HR := Lib.hid hrel; have HF := Lib.hid hf; have HB := Lib.hid hb; have HC := Lib.hid hcall
      have htk : L.take (k + 1) = L.take k ++ [L[k]] := List.take_succ_eq_append_getElem hkL
      have HTK := Lib.hid htk
      clear hrel hf hb hcall hc' hbd htk
      go_wp2_with fail
      refine wp_region_late (fun W => W.cell? ⟨w.heap.size, 4, none⟩ = some kv) [9] rfl (by simpa using q4) (fun hHeld => ?_)
      refine wpAnyT_takePD (i := 0) (d := 52) (oi := _) (v := ?zv1) rfl rfl (by kernel_rfl) (fun _ _ _ h => h) (Or.inl ⟨by rfl, ?zy1⟩) (by assumption) ?zr1
      case zy1 => (intro w hSw; (try dsimp only at hSw); go_split_ands; go_simp; (try rw [if_pos (by omega)]); (try go_simp); try with_reducible rfl)
      simp only [List.setIfInBounds_toArray, List.set_cons_zero, List.set_cons_succ]
      refine wpAnyT_takePD (i := 1) (d := 53) (oi := _) (v := ?zv2) rfl rfl (by kernel_rfl) (fun _ _ _ h => h) (Or.inl ⟨by rfl, ?zy2⟩) (by assumption) ?zr2
      case zy2 => (intro w hSw; (try dsimp only at hSw); go_split_ands; go_simp; (try rw [if_pos (by omega)]); (try go_simp); try with_reducible rfl)
      simp only [List.setIfInBounds_toArray, List.set_cons_zero, List.set_cons_succ]
      refine wpAnyT_takePD (i := 2) (d := 54) (oi := _) (v := ?zv3) rfl rfl (by kernel_rfl) (fun _ _ _ h => h) (Or.inl ⟨by rfl, ?zy3⟩) (by assumption) ?zr3
      case zy3 => (intro w hSw; (try dsimp only at hSw); go_split_ands; go_simp; (try rw [if_pos (by omega)]); (try go_simp); try with_reducible rfl)
      simp only [List.setIfInBounds_toArray, List.set_cons_zero, List.set_cons_succ]
      refine wpAnyT_takePD (i := 3) (d := 55) (oi := _) (v := ?zv4) rfl rfl (by kernel_rfl) (fun _ _ _ h => h) (Or.inl ⟨by rfl, ?zy4⟩) (by assumption) ?zr4
      case zy4 => (intro w hSw; (try dsimp only at hSw); go_split_ands; go_simp; (try rw [if_pos (by omega)]); (try go_simp); try with_reducible rfl)
      simp only [List.setIfInBounds_toArray, List.set_cons_zero, List.set_cons_succ]
      refine wpAnyT_takeD (i := 4) (d := 56) (oi := _) (v := ?zv5) rfl rfl (by kernel_rfl) (fun _ _ _ h => h) (Or.inl ⟨by rfl, ?zy5⟩) (by assumption) ?zr5
      case zy5 => (intro w hSw; (try dsimp only at hSw); go_split_ands; go_simp; (try rw [if_pos (by omega)]); (try go_simp); try with_reducible rfl)
      simp only [List.setIfInBounds_toArray, List.set_cons_zero, List.set_cons_succ]
      refine wpAnyT_takePD (i := 5) (d := 57) (oi := _) (v := ?zv6) rfl rfl (by kernel_rfl) (fun _ _ _ h => h) (Or.inl ⟨by rfl, ?zy6⟩) (by assumption) ?zr6
      case zy6 => (intro w hSw; (try dsimp only at hSw); go_split_ands; go_simp; (try rw [if_pos (by omega)]); (try go_simp); try with_reducible rfl)
      simp only [List.setIfInBounds_toArray, List.set_cons_zero, List.set_cons_succ]
      refine wpAnyT_takePD (i := 6) (d := 58) (oi := _) (v := ?zv7) rfl rfl (by kernel_rfl) (fun _ _ _ h => h) (Or.inl ⟨by rfl, ?zy7⟩) (by assumption) ?zr7
      case zy7 => (intro w hSw; (try dsimp only at hSw); go_split_ands; go_simp; (try rw [if_pos (by omega)]); (try go_simp); try with_reducible rfl)
      simp only [List.setIfInBounds_toArray, List.set_cons_zero, List.set_cons_succ]
      refine wpAnyT_ready (rs := [7]) (by kernel_rfl) (by simp) (AllReadyT.cons rfl (fun K2 hK2 => ?_) AllReadyT.nil)
      go_simp
      refine Calls.mono HC.out ?_
      rintro r w5 ⟨B2, rfl, hb5, hA⟩
      have hb6 : Below wr.heap.size wr w5 := ⟨hb5.os, hb5.tape, hb5.output, hb5.size, hb5.block⟩
      have hf5 := (hb6.block _ hFl).trans HF.out
      obtain ⟨b0, b1, b2, b3, b4, c0, c1, c2, c3, c4⟩ := block5 hf5
      have HB5 := Lib.hid hb6; have HA := Lib.hid hA; have HF5 := Lib.hid hf5
      clear hb5 hb6 hA hf5
      refine hK2.out _ _ b4 (fun _ => ?_)
      refine wpAnyT_ready (rs := [8]) (by kernel_rfl) (by simp) (AllReadyT.cons rfl (fun K3 hK3 => ?_) AllReadyT.nil)
      go_simp
      refine hK3.out _ _ ?_ (fun _ => ?_)
      · exact (World.cell?_alloc_some _ _ _ (by rw [b4]; rfl)).trans b4
      refine wpAnyT_tail 9 (by simp) rfl (by simp) (by kernel_rfl) ?_
      simp only [List.drop_succ_cons, List.drop_zero]
      have hkvb : ∀ b, kv.ownBlock = some b → w.heap.size + 1 ≤ b ∧ b < wr.heap.size := fun b hb => HR.out.2.2.1.lt b hb
      have hown : w5.ownsRow (w.heap.size + 1) tPtr 1 kv k (ks.map ptrP) := HR.out.2.2.1.kept (row := none) ⟨HB5.out.os, HB5.out.tape, HB5.out.output, HB5.out.size, fun j hj _ => HB5.out.block j hj⟩ (by cases kv.ownBlock <;> simp)
      have hsz5 : w.heap.size + 1 ≤ w5.heap.size := by have := HB5.out.size; omega
      have hcl : Hid True := Lib.hid trivial
      have HKV := Lib.hid hkvb
      clear hkvb
      go_wp2_with (at_builtin; refine wpList_append_fresh rfl _ _ 58 rfl (w.heap.size + 1) 22 (.pointer none) 1 8 Tryd.underlying58 infoPtr rfl (by decide) kv _ _ rfl w5 hown 1 [ptrP B2] 0 rfl rfl rfl (by simp [Value.oneCell']) (by decide) (by omega) (by omega) hsz5 ?_; intro g1 cp1 w6 ho6 hgr6 hat6 hlt6; have hf6 := (hgr6.block w.heap.size (by omega) (fun e => by have := (HKV.out _ e.symm).1; omega)).trans HF5.out; obtain ⟨d0, d1, d2, d3, d4, i0, i1, i2, i3, i4⟩ := block5 hf6; have HO6 := Lib.hid ho6; have HGR6 := Lib.hid hgr6; have HAT6 := Lib.hid hat6; clear hf6 ho6 hgr6 hat6)
      go_roundg m
      case measure => omega
      case rel => exact ⟨k + 1, _, _, by omega, by go_num, by rw [HTK.out]; exact in_round hN HR.out HB5.out HA.out HO6.out HGR6.out HAT6.out⟩
    · obtain rfl : k = n := by omega
      have hfin := in_done (o := true) hrel h0 hn
      rw [List.take_of_length_le (by rw [HL.out]; omega)] at hfin
      have HFIN := Lib.hid hfin
      clear hfin hrel hf hb
      go_wp2
      go_ret
      exact HFIN.out
set_option maxHeartbeats 2000000 in
set_option maxRecDepth 100000 in
theorem rin_several_true_true {N B g c n : Nat} {L : List Ast} {w : World} (h : w.heap[B]? = some (fltObj kOr 0 0 0 (.slice (some ⟨g, 0, none⟩) n c))) (hL : L.length = n) (h0 : 0 < n) (hn : n ≤ 200000) (hN : N ≤ w.heap.size)
    (hk : ∀ W, Below w.heap.size w W → ∀ j (h : j < L.length), ∃ k, W.cell? ⟨g, j, none⟩ = some (ptrP k) ∧ Calls Tryd.prog 7 #[ptrP k, .bool true] W (RInP N W L[j])) :
    Calls Tryd.prog 7 #[ptrP B, .bool true] w (RInP N w (.several false L)) := by
  have hBl := (Array.getElem?_eq_some_iff.1 h).1
  obtain ⟨f0, f1, f2, f3, f4, e0, e1, e2, e3, e4⟩ := block5 h
  have f0l : w.cell? ⟨B, 0, none⟩ = some (.string ⟨#[111, 114]⟩) := f0
  have HK := Lib.hid hk; have HL := Lib.hid hL; have H := Lib.hid h
  clear f0 h e0 e1 e2 e3 e4 hk hL
  go_enter Tryd.func7, Tryd.ntmps7
  have hmm := @run_makeMap Tryd.prog
  have hw2 : Below w.heap.size w ((w.alloc (fltObj kOr 0 0 0 (.slice none 0 0))).alloc (.map #[] 0)) := ((Below.refl _ _).alloc (Nat.le_refl _) _).alloc (by simp) _
  have hx2 : ((w.alloc (fltObj kOr 0 0 0 (.slice none 0 0))).alloc (.map #[] 0)).heap[w.heap.size]? = some (fltObj kOr 0 0 0 (.slice none 0 0)) := (Below.heap_alloc _ _ _ (by simp)).trans (heap_alloc_new _ _)
  have hown0 : ((w.alloc (fltObj kOr 0 0 0 (.slice none 0 0))).alloc (.map #[] 0)).ownsMap (H := Unit) Tryd.prog 9 (plainElem Tryd.prog 9) (w.heap.size + 1) 0 (.map []) := by
    have := World.ownsMap_made (H := Unit) (w.alloc (fltObj kOr 0 0 0 (.slice none 0 0))) Tryd.prog 9 (plainElem Tryd.prog 9)
    rwa [show (w.alloc (fltObj kOr 0 0 0 (.slice none 0 0))).heap.size = w.heap.size + 1 by simp] at this
  have HW2 := Lib.hid hw2; have HX2 := Lib.hid hx2
  clear hw2 hx2
  go_wp2_with (first
    | (refine wpList_insert_own (H := Unit) _ rfl _ _ _ 61 rfl 9 9 (Go.Maps.string_keyed Tryd.underlying9) Tryd.underlying61 _ (w.heap.size + 1) 0 _ rfl hown0 (by unfold maxLen; omega) (.string ⟨#[97, 110, 100]⟩) (.string ⟨#[111, 114]⟩) _ rfl rfl (Go.WideMaps.keyOf_string_mk Tryd.underlying9 (s := kAnd) and_sz) _ [] (plainElem_string Tryd.underlying9 (s := kOr) or_sz) ?_; intro w3 hown3 hgr3)
    | (refine wpList_insert_own (H := Unit) _ rfl _ _ _ 61 rfl 9 9 (Go.Maps.string_keyed Tryd.underlying9) Tryd.underlying61 _ (w.heap.size + 1) 1 _ rfl hown3 (by unfold maxLen; omega) (.string ⟨#[111, 114]⟩) (.string ⟨#[97, 110, 100]⟩) _ rfl rfl (Go.WideMaps.keyOf_string_mk Tryd.underlying9 (s := kOr) or_sz) _ [] (plainElem_string Tryd.underlying9 (s := kAnd) and_sz) ?_; intro w4 hown4 hgr4; have hw4 : Below w.heap.size w w4 := HW2.out.trans (below_of_grown (grownBy_trans hgr3 hgr4) (by omega) HW2.out.size); have hx4 := ((grownBy_trans hgr3 hgr4).block w.heap.size (Array.getElem?_eq_some_iff.1 HX2.out).1 (by simp)).trans HX2.out; obtain ⟨y0, y1, y2, y3, y4, z0, z1, z2, z3, z4⟩ := block5 hx4; have f04 : w4.cell? ⟨B, 0, none⟩ = some (.string ⟨#[111, 114]⟩) := below_cell hw4 f0l hBl; have f44 : (w4.setCell ⟨w.heap.size, 0, none⟩ (.string kAnd)).cell? ⟨B, 4, none⟩ = some (.slice (some ⟨g, 0, none⟩) n c) := below_cell (below_set0 hw4) f4 hBl; have HW4 := Lib.hid hw4; have HX4 := Lib.hid hx4; clear hw4 hx4 hgr3 hgr4)
    | (at_lookup; refine wpList_lookup_own_str (H := Unit) _ rfl _ _ 61 rfl 9 9 (Go.Maps.string_keyed Tryd.underlying9) Tryd.underlying61 Tryd.underlying9 (zeroStr _) (w.heap.size + 1) 2 _ rfl hown4 (.string ⟨#[111, 114]⟩) _ rfl (Go.WideMaps.keyOf_string_mk Tryd.underlying9 (s := kOr) or_sz) ?_; intro s hs; obtain rfl := two_or hs))
  have hS : Below w.heap.size w (w4.setCell ⟨w.heap.size, 0, none⟩ (.string kAnd)) ∧ (w4.setCell ⟨w.heap.size, 0, none⟩ (.string kAnd)).heap[w.heap.size]? = some (fltObj kAnd 0 0 0 (.slice none 0 0)) := ⟨below_set0 HW4.out, block5_set0 HX4.out⟩
  refine wp_forget (fun W => Below w.heap.size w W ∧ W.heap[w.heap.size]? = some (fltObj kAnd 0 0 0 (.slice none 0 0))) hS ?_
  clear hS
  rintro wS hS
  have HS := Lib.hid hS
  clear hS
  go_loopg [7, 48] n (fun gk xv iv W => ∃ (k : Nat) (kv : Value) (ks : List Nat), k + gk = n ∧ iv = .int .i64 k ∧ InRel N w W k kAnd kv ks (L.take k))
  case atStart => exact ⟨0, .slice none 0 0, [], by omega, rfl, HS.out.1, HS.out.2, World.ownsRow_nil _ _ _ _, rfl, trivial⟩
  case round =>
    obtain ⟨k, kv, ks, hkg, rfl, hrel⟩ := hrel
    have hb := hrel.1
    have hf := hrel.2.1
    have hFl : w.heap.size < wr.heap.size := (Array.getElem?_eq_some_iff.1 hf).1
    by_cases hlt : k < n
    · obtain ⟨m, rfl⟩ : ∃ m, gk = m + 1 := ⟨gk - 1, by omega⟩
      have hkL : k < L.length := by rw [HL.out]; exact hlt
      obtain ⟨kb, hc, _⟩ := HK.out wr hb k hkL
      have hbd : Below w.heap.size w wr.drew := hb.trans ⟨rfl, rfl, rfl, Nat.le_refl _, fun _ _ => rfl⟩
      obtain ⟨kb', hc', hcall⟩ := HK.out wr.drew hbd k hkL
      obtain rfl : kb' = kb := by
        have h7 := (show wr.cell? ⟨g, k, none⟩ = some (ptrP kb') from hc').symm.trans hc
        injection h7 with h7; injection h7 with h7; injection h7 with h7; injection h7
      obtain ⟨q0, q1, q2, q3, q4, r0, r1, r2, r3, r4⟩ := block5 hf
      have HR := Lib.hid hrel; have HF := Lib.hid hf; have HB := Lib.hid hb; have HC := Lib.hid hcall
      have htk : L.take (k + 1) = L.take k ++ [L[k]] := List.take_succ_eq_append_getElem hkL
      have HTK := Lib.hid htk
      clear hrel hf hb hcall hc' hbd htk
      go_wp2_with fail
      refine wp_region_late (fun W => W.cell? ⟨w.heap.size, 4, none⟩ = some kv) [9] rfl (by simpa using q4) (fun hHeld => ?_)
      refine wpAnyT_takePD (i := 0) (d := 52) (oi := _) (v := ?zv9) rfl rfl (by kernel_rfl) (fun _ _ _ h => h) (Or.inl ⟨by rfl, ?zy9⟩) (by assumption) ?zr9
      case zy9 => (intro w hSw; (try dsimp only at hSw); go_split_ands; go_simp; (try rw [if_pos (by omega)]); (try go_simp); try with_reducible rfl)
      simp only [List.setIfInBounds_toArray, List.set_cons_zero, List.set_cons_succ]
      refine wpAnyT_takePD (i := 1) (d := 53) (oi := _) (v := ?zv10) rfl rfl (by kernel_rfl) (fun _ _ _ h => h) (Or.inl ⟨by rfl, ?zy10⟩) (by assumption) ?zr10
      case zy10 => (intro w hSw; (try dsimp only at hSw); go_split_ands; go_simp; (try rw [if_pos (by omega)]); (try go_simp); try with_reducible rfl)
      simp only [List.setIfInBounds_toArray, List.set_cons_zero, List.set_cons_succ]
      refine wpAnyT_takePD (i := 2) (d := 54) (oi := _) (v := ?zv11) rfl rfl (by kernel_rfl) (fun _ _ _ h => h) (Or.inl ⟨by rfl, ?zy11⟩) (by assumption) ?zr11
      case zy11 => (intro w hSw; (try dsimp only at hSw); go_split_ands; go_simp; (try rw [if_pos (by omega)]); (try go_simp); try with_reducible rfl)
      simp only [List.setIfInBounds_toArray, List.set_cons_zero, List.set_cons_succ]
      refine wpAnyT_takePD (i := 3) (d := 55) (oi := _) (v := ?zv12) rfl rfl (by kernel_rfl) (fun _ _ _ h => h) (Or.inl ⟨by rfl, ?zy12⟩) (by assumption) ?zr12
      case zy12 => (intro w hSw; (try dsimp only at hSw); go_split_ands; go_simp; (try rw [if_pos (by omega)]); (try go_simp); try with_reducible rfl)
      simp only [List.setIfInBounds_toArray, List.set_cons_zero, List.set_cons_succ]
      refine wpAnyT_takeD (i := 4) (d := 56) (oi := _) (v := ?zv13) rfl rfl (by kernel_rfl) (fun _ _ _ h => h) (Or.inl ⟨by rfl, ?zy13⟩) (by assumption) ?zr13
      case zy13 => (intro w hSw; (try dsimp only at hSw); go_split_ands; go_simp; (try rw [if_pos (by omega)]); (try go_simp); try with_reducible rfl)
      simp only [List.setIfInBounds_toArray, List.set_cons_zero, List.set_cons_succ]
      refine wpAnyT_takePD (i := 5) (d := 57) (oi := _) (v := ?zv14) rfl rfl (by kernel_rfl) (fun _ _ _ h => h) (Or.inl ⟨by rfl, ?zy14⟩) (by assumption) ?zr14
      case zy14 => (intro w hSw; (try dsimp only at hSw); go_split_ands; go_simp; (try rw [if_pos (by omega)]); (try go_simp); try with_reducible rfl)
      simp only [List.setIfInBounds_toArray, List.set_cons_zero, List.set_cons_succ]
      refine wpAnyT_takePD (i := 6) (d := 58) (oi := _) (v := ?zv15) rfl rfl (by kernel_rfl) (fun _ _ _ h => h) (Or.inl ⟨by rfl, ?zy15⟩) (by assumption) ?zr15
      case zy15 => (intro w hSw; (try dsimp only at hSw); go_split_ands; go_simp; (try rw [if_pos (by omega)]); (try go_simp); try with_reducible rfl)
      simp only [List.setIfInBounds_toArray, List.set_cons_zero, List.set_cons_succ]
      refine wpAnyT_ready (rs := [7]) (by kernel_rfl) (by simp) (AllReadyT.cons rfl (fun K2 hK2 => ?_) AllReadyT.nil)
      go_simp
      refine Calls.mono HC.out ?_
      rintro r w5 ⟨B2, rfl, hb5, hA⟩
      have hb6 : Below wr.heap.size wr w5 := ⟨hb5.os, hb5.tape, hb5.output, hb5.size, hb5.block⟩
      have hf5 := (hb6.block _ hFl).trans HF.out
      obtain ⟨b0, b1, b2, b3, b4, c0, c1, c2, c3, c4⟩ := block5 hf5
      have HB5 := Lib.hid hb6; have HA := Lib.hid hA; have HF5 := Lib.hid hf5
      clear hb5 hb6 hA hf5
      refine hK2.out _ _ b4 (fun _ => ?_)
      refine wpAnyT_ready (rs := [8]) (by kernel_rfl) (by simp) (AllReadyT.cons rfl (fun K3 hK3 => ?_) AllReadyT.nil)
      go_simp
      refine hK3.out _ _ ?_ (fun _ => ?_)
      · exact (World.cell?_alloc_some _ _ _ (by rw [b4]; rfl)).trans b4
      refine wpAnyT_tail 9 (by simp) rfl (by simp) (by kernel_rfl) ?_
      simp only [List.drop_succ_cons, List.drop_zero]
      have hkvb : ∀ b, kv.ownBlock = some b → w.heap.size + 1 ≤ b ∧ b < wr.heap.size := fun b hb => HR.out.2.2.1.lt b hb
      have hown : w5.ownsRow (w.heap.size + 1) tPtr 1 kv k (ks.map ptrP) := HR.out.2.2.1.kept (row := none) ⟨HB5.out.os, HB5.out.tape, HB5.out.output, HB5.out.size, fun j hj _ => HB5.out.block j hj⟩ (by cases kv.ownBlock <;> simp)
      have hsz5 : w.heap.size + 1 ≤ w5.heap.size := by have := HB5.out.size; omega
      have hcl : Hid True := Lib.hid trivial
      have HKV := Lib.hid hkvb
      clear hkvb
      go_wp2_with (at_builtin; refine wpList_append_fresh rfl _ _ 58 rfl (w.heap.size + 1) 22 (.pointer none) 1 8 Tryd.underlying58 infoPtr rfl (by decide) kv _ _ rfl w5 hown 1 [ptrP B2] 0 rfl rfl rfl (by simp [Value.oneCell']) (by decide) (by omega) (by omega) hsz5 ?_; intro g1 cp1 w6 ho6 hgr6 hat6 hlt6; have hf6 := (hgr6.block w.heap.size (by omega) (fun e => by have := (HKV.out _ e.symm).1; omega)).trans HF5.out; obtain ⟨d0, d1, d2, d3, d4, i0, i1, i2, i3, i4⟩ := block5 hf6; have HO6 := Lib.hid ho6; have HGR6 := Lib.hid hgr6; have HAT6 := Lib.hid hat6; clear hf6 ho6 hgr6 hat6)
      go_roundg m
      case measure => omega
      case rel => exact ⟨k + 1, _, _, by omega, by go_num, by rw [HTK.out]; exact in_round hN HR.out HB5.out HA.out HO6.out HGR6.out HAT6.out⟩
    · obtain rfl : k = n := by omega
      have hfin := in_done (o := false) hrel h0 hn
      rw [List.take_of_length_le (by rw [HL.out]; omega)] at hfin
      have HFIN := Lib.hid hfin
      clear hfin hrel hf hb
      go_wp2
      go_ret
      exact HFIN.out
set_option maxHeartbeats 2000000 in
set_option maxRecDepth 100000 in
theorem rin_several_false_false {N B g c n : Nat} {L : List Ast} {w : World} (h : w.heap[B]? = some (fltObj kAnd 0 0 0 (.slice (some ⟨g, 0, none⟩) n c))) (hL : L.length = n) (h0 : 0 < n) (hn : n ≤ 200000) (hN : N ≤ w.heap.size)
    (hk : ∀ W, Below w.heap.size w W → ∀ j (h : j < L.length), ∃ k, W.cell? ⟨g, j, none⟩ = some (ptrP k) ∧ Calls Tryd.prog 7 #[ptrP k, .bool false] W (RInP N W L[j])) :
    Calls Tryd.prog 7 #[ptrP B, .bool false] w (RInP N w (.several false L)) := by
  have hBl := (Array.getElem?_eq_some_iff.1 h).1
  obtain ⟨f0, f1, f2, f3, f4, e0, e1, e2, e3, e4⟩ := block5 h
  have f0l : w.cell? ⟨B, 0, none⟩ = some (.string ⟨#[97, 110, 100]⟩) := f0
  have HK := Lib.hid hk; have HL := Lib.hid hL; have H := Lib.hid h
  clear f0 h e0 e1 e2 e3 e4 hk hL
  go_enter Tryd.func7, Tryd.ntmps7
  go_wp2_with fail
  have hS : Below w.heap.size w (w.alloc (fltObj kAnd 0 0 0 (.slice none 0 0))) ∧ (w.alloc (fltObj kAnd 0 0 0 (.slice none 0 0))).heap[w.heap.size]? = some (fltObj kAnd 0 0 0 (.slice none 0 0)) := ⟨(Below.refl _ _).alloc (Nat.le_refl _) _, heap_alloc_new _ _⟩
  refine wp_forget (fun W => Below w.heap.size w W ∧ W.heap[w.heap.size]? = some (fltObj kAnd 0 0 0 (.slice none 0 0))) hS ?_
  clear hS
  rintro wS hS
  have HS := Lib.hid hS
  clear hS
  go_loopg [7, 48] n (fun gk xv iv W => ∃ (k : Nat) (kv : Value) (ks : List Nat), k + gk = n ∧ iv = .int .i64 k ∧ InRel N w W k kAnd kv ks (L.take k))
  case atStart => exact ⟨0, .slice none 0 0, [], by omega, rfl, HS.out.1, HS.out.2, World.ownsRow_nil _ _ _ _, rfl, trivial⟩
  case round =>
    obtain ⟨k, kv, ks, hkg, rfl, hrel⟩ := hrel
    have hb := hrel.1
    have hf := hrel.2.1
    have hFl : w.heap.size < wr.heap.size := (Array.getElem?_eq_some_iff.1 hf).1
    by_cases hlt : k < n
    · obtain ⟨m, rfl⟩ : ∃ m, gk = m + 1 := ⟨gk - 1, by omega⟩
      have hkL : k < L.length := by rw [HL.out]; exact hlt
      obtain ⟨kb, hc, _⟩ := HK.out wr hb k hkL
      have hbd : Below w.heap.size w wr.drew := hb.trans ⟨rfl, rfl, rfl, Nat.le_refl _, fun _ _ => rfl⟩
      obtain ⟨kb', hc', hcall⟩ := HK.out wr.drew hbd k hkL
      obtain rfl : kb' = kb := by
        have h7 := (show wr.cell? ⟨g, k, none⟩ = some (ptrP kb') from hc').symm.trans hc
        injection h7 with h7; injection h7 with h7; injection h7 with h7; injection h7
      obtain ⟨q0, q1, q2, q3, q4, r0, r1, r2, r3, r4⟩ := block5 hf
      have HR := Lib.hid hrel; have HF := Lib.hid hf; have HB := Lib.hid hb; have HC := Lib.hid hcall
      have htk : L.take (k + 1) = L.take k ++ [L[k]] := List.take_succ_eq_append_getElem hkL
      have HTK := Lib.hid htk
      clear hrel hf hb hcall hc' hbd htk
      go_wp2_with fail
      refine wp_region_late (fun W => W.cell? ⟨w.heap.size, 4, none⟩ = some kv) [9] rfl (by simpa using q4) (fun hHeld => ?_)
      refine wpAnyT_takePD (i := 0) (d := 52) (oi := _) (v := ?zv17) rfl rfl (by kernel_rfl) (fun _ _ _ h => h) (Or.inl ⟨by rfl, ?zy17⟩) (by assumption) ?zr17
      case zy17 => (intro w hSw; (try dsimp only at hSw); go_split_ands; go_simp; (try rw [if_pos (by omega)]); (try go_simp); try with_reducible rfl)
      simp only [List.setIfInBounds_toArray, List.set_cons_zero, List.set_cons_succ]
      refine wpAnyT_takePD (i := 1) (d := 53) (oi := _) (v := ?zv18) rfl rfl (by kernel_rfl) (fun _ _ _ h => h) (Or.inl ⟨by rfl, ?zy18⟩) (by assumption) ?zr18
      case zy18 => (intro w hSw; (try dsimp only at hSw); go_split_ands; go_simp; (try rw [if_pos (by omega)]); (try go_simp); try with_reducible rfl)
      simp only [List.setIfInBounds_toArray, List.set_cons_zero, List.set_cons_succ]
      refine wpAnyT_takePD (i := 2) (d := 54) (oi := _) (v := ?zv19) rfl rfl (by kernel_rfl) (fun _ _ _ h => h) (Or.inl ⟨by rfl, ?zy19⟩) (by assumption) ?zr19
      case zy19 => (intro w hSw; (try dsimp only at hSw); go_split_ands; go_simp; (try rw [if_pos (by omega)]); (try go_simp); try with_reducible rfl)
      simp only [List.setIfInBounds_toArray, List.set_cons_zero, List.set_cons_succ]
      refine wpAnyT_takePD (i := 3) (d := 55) (oi := _) (v := ?zv20) rfl rfl (by kernel_rfl) (fun _ _ _ h => h) (Or.inl ⟨by rfl, ?zy20⟩) (by assumption) ?zr20
      case zy20 => (intro w hSw; (try dsimp only at hSw); go_split_ands; go_simp; (try rw [if_pos (by omega)]); (try go_simp); try with_reducible rfl)
      simp only [List.setIfInBounds_toArray, List.set_cons_zero, List.set_cons_succ]
      refine wpAnyT_takeD (i := 4) (d := 56) (oi := _) (v := ?zv21) rfl rfl (by kernel_rfl) (fun _ _ _ h => h) (Or.inl ⟨by rfl, ?zy21⟩) (by assumption) ?zr21
      case zy21 => (intro w hSw; (try dsimp only at hSw); go_split_ands; go_simp; (try rw [if_pos (by omega)]); (try go_simp); try with_reducible rfl)
      simp only [List.setIfInBounds_toArray, List.set_cons_zero, List.set_cons_succ]
      refine wpAnyT_takePD (i := 5) (d := 57) (oi := _) (v := ?zv22) rfl rfl (by kernel_rfl) (fun _ _ _ h => h) (Or.inl ⟨by rfl, ?zy22⟩) (by assumption) ?zr22
      case zy22 => (intro w hSw; (try dsimp only at hSw); go_split_ands; go_simp; (try rw [if_pos (by omega)]); (try go_simp); try with_reducible rfl)
      simp only [List.setIfInBounds_toArray, List.set_cons_zero, List.set_cons_succ]
      refine wpAnyT_takePD (i := 6) (d := 58) (oi := _) (v := ?zv23) rfl rfl (by kernel_rfl) (fun _ _ _ h => h) (Or.inl ⟨by rfl, ?zy23⟩) (by assumption) ?zr23
      case zy23 => (intro w hSw; (try dsimp only at hSw); go_split_ands; go_simp; (try rw [if_pos (by omega)]); (try go_simp); try with_reducible rfl)
      simp only [List.setIfInBounds_toArray, List.set_cons_zero, List.set_cons_succ]
      refine wpAnyT_ready (rs := [7]) (by kernel_rfl) (by simp) (AllReadyT.cons rfl (fun K2 hK2 => ?_) AllReadyT.nil)
      go_simp
      refine Calls.mono HC.out ?_
      rintro r w5 ⟨B2, rfl, hb5, hA⟩
      have hb6 : Below wr.heap.size wr w5 := ⟨hb5.os, hb5.tape, hb5.output, hb5.size, hb5.block⟩
      have hf5 := (hb6.block _ hFl).trans HF.out
      obtain ⟨b0, b1, b2, b3, b4, c0, c1, c2, c3, c4⟩ := block5 hf5
      have HB5 := Lib.hid hb6; have HA := Lib.hid hA; have HF5 := Lib.hid hf5
      clear hb5 hb6 hA hf5
      refine hK2.out _ _ b4 (fun _ => ?_)
      refine wpAnyT_ready (rs := [8]) (by kernel_rfl) (by simp) (AllReadyT.cons rfl (fun K3 hK3 => ?_) AllReadyT.nil)
      go_simp
      refine hK3.out _ _ ?_ (fun _ => ?_)
      · exact (World.cell?_alloc_some _ _ _ (by rw [b4]; rfl)).trans b4
      refine wpAnyT_tail 9 (by simp) rfl (by simp) (by kernel_rfl) ?_
      simp only [List.drop_succ_cons, List.drop_zero]
      have hkvb : ∀ b, kv.ownBlock = some b → w.heap.size + 1 ≤ b ∧ b < wr.heap.size := fun b hb => HR.out.2.2.1.lt b hb
      have hown : w5.ownsRow (w.heap.size + 1) tPtr 1 kv k (ks.map ptrP) := HR.out.2.2.1.kept (row := none) ⟨HB5.out.os, HB5.out.tape, HB5.out.output, HB5.out.size, fun j hj _ => HB5.out.block j hj⟩ (by cases kv.ownBlock <;> simp)
      have hsz5 : w.heap.size + 1 ≤ w5.heap.size := by have := HB5.out.size; omega
      have hcl : Hid True := Lib.hid trivial
      have HKV := Lib.hid hkvb
      clear hkvb
      go_wp2_with (at_builtin; refine wpList_append_fresh rfl _ _ 58 rfl (w.heap.size + 1) 22 (.pointer none) 1 8 Tryd.underlying58 infoPtr rfl (by decide) kv _ _ rfl w5 hown 1 [ptrP B2] 0 rfl rfl rfl (by simp [Value.oneCell']) (by decide) (by omega) (by omega) hsz5 ?_; intro g1 cp1 w6 ho6 hgr6 hat6 hlt6; have hf6 := (hgr6.block w.heap.size (by omega) (fun e => by have := (HKV.out _ e.symm).1; omega)).trans HF5.out; obtain ⟨d0, d1, d2, d3, d4, i0, i1, i2, i3, i4⟩ := block5 hf6; have HO6 := Lib.hid ho6; have HGR6 := Lib.hid hgr6; have HAT6 := Lib.hid hat6; clear hf6 ho6 hgr6 hat6)
      go_roundg m
      case measure => omega
      case rel => exact ⟨k + 1, _, _, by omega, by go_num, by rw [HTK.out]; exact in_round hN HR.out HB5.out HA.out HO6.out HGR6.out HAT6.out⟩
    · obtain rfl : k = n := by omega
      have hfin := in_done (o := false) hrel h0 hn
      rw [List.take_of_length_le (by rw [HL.out]; omega)] at hfin
      have HFIN := Lib.hid hfin
      clear hfin hrel hf hb
      go_wp2
      go_ret
      exact HFIN.out
set_option maxHeartbeats 2000000 in
set_option maxRecDepth 100000 in
theorem rin_several_false_true {N B g c n : Nat} {L : List Ast} {w : World} (h : w.heap[B]? = some (fltObj kAnd 0 0 0 (.slice (some ⟨g, 0, none⟩) n c))) (hL : L.length = n) (h0 : 0 < n) (hn : n ≤ 200000) (hN : N ≤ w.heap.size)
    (hk : ∀ W, Below w.heap.size w W → ∀ j (h : j < L.length), ∃ k, W.cell? ⟨g, j, none⟩ = some (ptrP k) ∧ Calls Tryd.prog 7 #[ptrP k, .bool true] W (RInP N W L[j])) :
    Calls Tryd.prog 7 #[ptrP B, .bool true] w (RInP N w (.several true L)) := by
  have hBl := (Array.getElem?_eq_some_iff.1 h).1
  obtain ⟨f0, f1, f2, f3, f4, e0, e1, e2, e3, e4⟩ := block5 h
  have f0l : w.cell? ⟨B, 0, none⟩ = some (.string ⟨#[97, 110, 100]⟩) := f0
  have HK := Lib.hid hk; have HL := Lib.hid hL; have H := Lib.hid h
  clear f0 h e0 e1 e2 e3 e4 hk hL
  go_enter Tryd.func7, Tryd.ntmps7
  have hmm := @run_makeMap Tryd.prog
  have hw2 : Below w.heap.size w ((w.alloc (fltObj kAnd 0 0 0 (.slice none 0 0))).alloc (.map #[] 0)) := ((Below.refl _ _).alloc (Nat.le_refl _) _).alloc (by simp) _
  have hx2 : ((w.alloc (fltObj kAnd 0 0 0 (.slice none 0 0))).alloc (.map #[] 0)).heap[w.heap.size]? = some (fltObj kAnd 0 0 0 (.slice none 0 0)) := (Below.heap_alloc _ _ _ (by simp)).trans (heap_alloc_new _ _)
  have hown0 : ((w.alloc (fltObj kAnd 0 0 0 (.slice none 0 0))).alloc (.map #[] 0)).ownsMap (H := Unit) Tryd.prog 9 (plainElem Tryd.prog 9) (w.heap.size + 1) 0 (.map []) := by
    have := World.ownsMap_made (H := Unit) (w.alloc (fltObj kAnd 0 0 0 (.slice none 0 0))) Tryd.prog 9 (plainElem Tryd.prog 9)
    rwa [show (w.alloc (fltObj kAnd 0 0 0 (.slice none 0 0))).heap.size = w.heap.size + 1 by simp] at this
  have HW2 := Lib.hid hw2; have HX2 := Lib.hid hx2
  clear hw2 hx2
  go_wp2_with (first
    | (refine wpList_insert_own (H := Unit) _ rfl _ _ _ 61 rfl 9 9 (Go.Maps.string_keyed Tryd.underlying9) Tryd.underlying61 _ (w.heap.size + 1) 0 _ rfl hown0 (by unfold maxLen; omega) (.string ⟨#[97, 110, 100]⟩) (.string ⟨#[111, 114]⟩) _ rfl rfl (Go.WideMaps.keyOf_string_mk Tryd.underlying9 (s := kAnd) and_sz) _ [] (plainElem_string Tryd.underlying9 (s := kOr) or_sz) ?_; intro w3 hown3 hgr3)
    | (refine wpList_insert_own (H := Unit) _ rfl _ _ _ 61 rfl 9 9 (Go.Maps.string_keyed Tryd.underlying9) Tryd.underlying61 _ (w.heap.size + 1) 1 _ rfl hown3 (by unfold maxLen; omega) (.string ⟨#[111, 114]⟩) (.string ⟨#[97, 110, 100]⟩) _ rfl rfl (Go.WideMaps.keyOf_string_mk Tryd.underlying9 (s := kOr) or_sz) _ [] (plainElem_string Tryd.underlying9 (s := kAnd) and_sz) ?_; intro w4 hown4 hgr4; have hw4 : Below w.heap.size w w4 := HW2.out.trans (below_of_grown (grownBy_trans hgr3 hgr4) (by omega) HW2.out.size); have hx4 := ((grownBy_trans hgr3 hgr4).block w.heap.size (Array.getElem?_eq_some_iff.1 HX2.out).1 (by simp)).trans HX2.out; obtain ⟨y0, y1, y2, y3, y4, z0, z1, z2, z3, z4⟩ := block5 hx4; have f04 : w4.cell? ⟨B, 0, none⟩ = some (.string ⟨#[97, 110, 100]⟩) := below_cell hw4 f0l hBl; have f44 : (w4.setCell ⟨w.heap.size, 0, none⟩ (.string kOr)).cell? ⟨B, 4, none⟩ = some (.slice (some ⟨g, 0, none⟩) n c) := below_cell (below_set0 hw4) f4 hBl; have HW4 := Lib.hid hw4; have HX4 := Lib.hid hx4; clear hw4 hx4 hgr3 hgr4)
    | (at_lookup; refine wpList_lookup_own_str (H := Unit) _ rfl _ _ 61 rfl 9 9 (Go.Maps.string_keyed Tryd.underlying9) Tryd.underlying61 Tryd.underlying9 (zeroStr _) (w.heap.size + 1) 2 _ rfl hown4 (.string ⟨#[97, 110, 100]⟩) _ rfl (Go.WideMaps.keyOf_string_mk Tryd.underlying9 (s := kAnd) and_sz) ?_; intro s hs; obtain rfl := two_and hs))
  have hS : Below w.heap.size w (w4.setCell ⟨w.heap.size, 0, none⟩ (.string kOr)) ∧ (w4.setCell ⟨w.heap.size, 0, none⟩ (.string kOr)).heap[w.heap.size]? = some (fltObj kOr 0 0 0 (.slice none 0 0)) := ⟨below_set0 HW4.out, block5_set0 HX4.out⟩
  refine wp_forget (fun W => Below w.heap.size w W ∧ W.heap[w.heap.size]? = some (fltObj kOr 0 0 0 (.slice none 0 0))) hS ?_
  clear hS
  rintro wS hS
  have HS := Lib.hid hS
  clear hS
  go_loopg [7, 48] n (fun gk xv iv W => ∃ (k : Nat) (kv : Value) (ks : List Nat), k + gk = n ∧ iv = .int .i64 k ∧ InRel N w W k kOr kv ks (L.take k))
  case atStart => exact ⟨0, .slice none 0 0, [], by omega, rfl, HS.out.1, HS.out.2, World.ownsRow_nil _ _ _ _, rfl, trivial⟩
  case round =>
    obtain ⟨k, kv, ks, hkg, rfl, hrel⟩ := hrel
    have hb := hrel.1
    have hf := hrel.2.1
    have hFl : w.heap.size < wr.heap.size := (Array.getElem?_eq_some_iff.1 hf).1
    by_cases hlt : k < n
    · obtain ⟨m, rfl⟩ : ∃ m, gk = m + 1 := ⟨gk - 1, by omega⟩
      have hkL : k < L.length := by rw [HL.out]; exact hlt
      obtain ⟨kb, hc, _⟩ := HK.out wr hb k hkL
      have hbd : Below w.heap.size w wr.drew := hb.trans ⟨rfl, rfl, rfl, Nat.le_refl _, fun _ _ => rfl⟩
      obtain ⟨kb', hc', hcall⟩ := HK.out wr.drew hbd k hkL
      obtain rfl : kb' = kb := by
        have h7 := (show wr.cell? ⟨g, k, none⟩ = some (ptrP kb') from hc').symm.trans hc
        injection h7 with h7; injection h7 with h7; injection h7 with h7; injection h7
      obtain ⟨q0, q1, q2, q3, q4, r0, r1, r2, r3, r4⟩ := block5 hf
      have HR := Lib.hid hrel; have HF := Lib.hid hf; have HB := Lib.hid hb; have HC := Lib.hid hcall
      have htk : L.take (k + 1) = L.take k ++ [L[k]] := List.take_succ_eq_append_getElem hkL
      have HTK := Lib.hid htk
      clear hrel hf hb hcall hc' hbd htk
      go_wp2_with fail
      refine wp_region_late (fun W => W.cell? ⟨w.heap.size, 4, none⟩ = some kv) [9] rfl (by simpa using q4) (fun hHeld => ?_)
      refine wpAnyT_takePD (i := 0) (d := 52) (oi := _) (v := ?zv25) rfl rfl (by kernel_rfl) (fun _ _ _ h => h) (Or.inl ⟨by rfl, ?zy25⟩) (by assumption) ?zr25
      case zy25 => (intro w hSw; (try dsimp only at hSw); go_split_ands; go_simp; (try rw [if_pos (by omega)]); (try go_simp); try with_reducible rfl)
      simp only [List.setIfInBounds_toArray, List.set_cons_zero, List.set_cons_succ]
      refine wpAnyT_takePD (i := 1) (d := 53) (oi := _) (v := ?zv26) rfl rfl (by kernel_rfl) (fun _ _ _ h => h) (Or.inl ⟨by rfl, ?zy26⟩) (by assumption) ?zr26
      case zy26 => (intro w hSw; (try dsimp only at hSw); go_split_ands; go_simp; (try rw [if_pos (by omega)]); (try go_simp); try with_reducible rfl)
      simp only [List.setIfInBounds_toArray, List.set_cons_zero, List.set_cons_succ]
      refine wpAnyT_takePD (i := 2) (d := 54) (oi := _) (v := ?zv27) rfl rfl (by kernel_rfl) (fun _ _ _ h => h) (Or.inl ⟨by rfl, ?zy27⟩) (by assumption) ?zr27
      case zy27 => (intro w hSw; (try dsimp only at hSw); go_split_ands; go_simp; (try rw [if_pos (by omega)]); (try go_simp); try with_reducible rfl)
      simp only [List.setIfInBounds_toArray, List.set_cons_zero, List.set_cons_succ]
      refine wpAnyT_takePD (i := 3) (d := 55) (oi := _) (v := ?zv28) rfl rfl (by kernel_rfl) (fun _ _ _ h => h) (Or.inl ⟨by rfl, ?zy28⟩) (by assumption) ?zr28
      case zy28 => (intro w hSw; (try dsimp only at hSw); go_split_ands; go_simp; (try rw [if_pos (by omega)]); (try go_simp); try with_reducible rfl)
      simp only [List.setIfInBounds_toArray, List.set_cons_zero, List.set_cons_succ]
      refine wpAnyT_takeD (i := 4) (d := 56) (oi := _) (v := ?zv29) rfl rfl (by kernel_rfl) (fun _ _ _ h => h) (Or.inl ⟨by rfl, ?zy29⟩) (by assumption) ?zr29
      case zy29 => (intro w hSw; (try dsimp only at hSw); go_split_ands; go_simp; (try rw [if_pos (by omega)]); (try go_simp); try with_reducible rfl)
      simp only [List.setIfInBounds_toArray, List.set_cons_zero, List.set_cons_succ]
      refine wpAnyT_takePD (i := 5) (d := 57) (oi := _) (v := ?zv30) rfl rfl (by kernel_rfl) (fun _ _ _ h => h) (Or.inl ⟨by rfl, ?zy30⟩) (by assumption) ?zr30
      case zy30 => (intro w hSw; (try dsimp only at hSw); go_split_ands; go_simp; (try rw [if_pos (by omega)]); (try go_simp); try with_reducible rfl)
      simp only [List.setIfInBounds_toArray, List.set_cons_zero, List.set_cons_succ]
      refine wpAnyT_takePD (i := 6) (d := 58) (oi := _) (v := ?zv31) rfl rfl (by kernel_rfl) (fun _ _ _ h => h) (Or.inl ⟨by rfl, ?zy31⟩) (by assumption) ?zr31
      case zy31 => (intro w hSw; (try dsimp only at hSw); go_split_ands; go_simp; (try rw [if_pos (by omega)]); (try go_simp); try with_reducible rfl)
      simp only [List.setIfInBounds_toArray, List.set_cons_zero, List.set_cons_succ]
      refine wpAnyT_ready (rs := [7]) (by kernel_rfl) (by simp) (AllReadyT.cons rfl (fun K2 hK2 => ?_) AllReadyT.nil)
      go_simp
      refine Calls.mono HC.out ?_
      rintro r w5 ⟨B2, rfl, hb5, hA⟩
      have hb6 : Below wr.heap.size wr w5 := ⟨hb5.os, hb5.tape, hb5.output, hb5.size, hb5.block⟩
      have hf5 := (hb6.block _ hFl).trans HF.out
      obtain ⟨b0, b1, b2, b3, b4, c0, c1, c2, c3, c4⟩ := block5 hf5
      have HB5 := Lib.hid hb6; have HA := Lib.hid hA; have HF5 := Lib.hid hf5
      clear hb5 hb6 hA hf5
      refine hK2.out _ _ b4 (fun _ => ?_)
      refine wpAnyT_ready (rs := [8]) (by kernel_rfl) (by simp) (AllReadyT.cons rfl (fun K3 hK3 => ?_) AllReadyT.nil)
      go_simp
      refine hK3.out _ _ ?_ (fun _ => ?_)
      · exact (World.cell?_alloc_some _ _ _ (by rw [b4]; rfl)).trans b4
      refine wpAnyT_tail 9 (by simp) rfl (by simp) (by kernel_rfl) ?_
      simp only [List.drop_succ_cons, List.drop_zero]
      have hkvb : ∀ b, kv.ownBlock = some b → w.heap.size + 1 ≤ b ∧ b < wr.heap.size := fun b hb => HR.out.2.2.1.lt b hb
      have hown : w5.ownsRow (w.heap.size + 1) tPtr 1 kv k (ks.map ptrP) := HR.out.2.2.1.kept (row := none) ⟨HB5.out.os, HB5.out.tape, HB5.out.output, HB5.out.size, fun j hj _ => HB5.out.block j hj⟩ (by cases kv.ownBlock <;> simp)
      have hsz5 : w.heap.size + 1 ≤ w5.heap.size := by have := HB5.out.size; omega
      have hcl : Hid True := Lib.hid trivial
      have HKV := Lib.hid hkvb
      clear hkvb
      go_wp2_with (at_builtin; refine wpList_append_fresh rfl _ _ 58 rfl (w.heap.size + 1) 22 (.pointer none) 1 8 Tryd.underlying58 infoPtr rfl (by decide) kv _ _ rfl w5 hown 1 [ptrP B2] 0 rfl rfl rfl (by simp [Value.oneCell']) (by decide) (by omega) (by omega) hsz5 ?_; intro g1 cp1 w6 ho6 hgr6 hat6 hlt6; have hf6 := (hgr6.block w.heap.size (by omega) (fun e => by have := (HKV.out _ e.symm).1; omega)).trans HF5.out; obtain ⟨d0, d1, d2, d3, d4, i0, i1, i2, i3, i4⟩ := block5 hf6; have HO6 := Lib.hid ho6; have HGR6 := Lib.hid hgr6; have HAT6 := Lib.hid hat6; clear hf6 ho6 hgr6 hat6)
      go_roundg m
      case measure => omega
      case rel => exact ⟨k + 1, _, _, by omega, by go_num, by rw [HTK.out]; exact in_round hN HR.out HB5.out HA.out HO6.out HGR6.out HAT6.out⟩
    · obtain rfl : k = n := by omega
      have hfin := in_done (o := true) hrel h0 hn
      rw [List.take_of_length_le (by rw [HL.out]; omega)] at hfin
      have HFIN := Lib.hid hfin
      clear hfin hrel hf hb
      go_wp2
      go_ret
      exact HFIN.out
end Go.Proofs.YtfjfbiocjloilaaDoor
