/-
  What is proved here: the text of the program's filters (11.3).
-/
import Derived.Test.YtfjfbiocjloilaaDoorFiltT0
import Derived.Test.YtfjfbiocjloilaaDoorFiltV3
namespace Go.Proofs.YtfjfbiocjloilaaDoor
open Go.RowKit Go.Sort

abbrev bs (l : List UInt8) : ByteArray := ⟨l.toArray⟩
theorem ret_str {s t : ByteArray} (h : s.data.toList = t.data.toList) : Ending.returned (.string s) = .returned (.string t) := by rw [bytes_ext.2 h]
/-- What stands behind an interface, and that its Text is s. -/
def InvT (lo : Nat) (W : World) (v : Value) (s : List UInt8) : Prop :=
  ∃ t p fn, v = .iface t p ∧ (∀ w, (Go.method 255 t p "Text").run Tryd.prog w = .ok (fn, p) w) ∧ (∀ args w, (callFunc fn args).run Tryd.prog w = .ok (.enter fn args) w) ∧
    ∀ W', Below W.heap.size W W' → EnvF lo W' → Calls Tryd.prog fn #[p] W' fun e w'' => e = .returned (.string (bs s)) ∧ Below W'.heap.size W' w''
theorem InvT.below {lo : Nat} {W W' : World} {v : Value} {s : List UInt8} (h : InvT lo W v s) (hb : Below W.heap.size W W') : InvT lo W' v s := by
  obtain ⟨t, p, fn, h1, h2, h4, h3⟩ := h
  exact ⟨t, p, fn, h1, h2, h4, fun W2 hb2 => h3 W2 (hb.trans (hb2.mono hb.size))⟩
theorem itoa_any {lo : Nat} {n : Int} (hn : NumOk n) (w : World) (hE : EnvF lo w) : Calls Tryd.prog 24 #[.int .i64 n] w fun e w' => e = .returned (.string (bs (Lib.itoa n))) ∧ Below w.heap.size w w' :=
  (Tryd.strconv_Itoa n (by have := hn.1; omega) (by have := hn.2; omega) w hE.n.tab).mono fun e w' ⟨h1, k, os, h2⟩ => ⟨h1, by rw [h2]; exact below_grow⟩
set_option maxRecDepth 100000 in
theorem alwaysT (w : World) : Calls Tryd.prog 94 #[.agg #[]] w fun e w' => e = .returned (.string (bs (txt .any))) ∧ Below w.heap.size w w' := by
  go_enter Tryd.func94, Tryd.ntmps94
  go_wp2
  go_ret
  exact ⟨ret_str rfl, (Below.refl _ _).alloc (Nat.le_refl _) _⟩
set_option maxRecDepth 100000 in
theorem notT {lo : Nat} {v : Value} {s : List UInt8} {W : World} (h : InvT lo W v s) (w : World) (hw : Below W.heap.size W w) (hE : EnvF lo w) (hs : s.length ≤ 1000000) :
    Calls Tryd.prog 90 #[.agg #[v]] w fun e w' => e = .returned (.string (bs ([110, 111, 116, 32] ++ s))) ∧ Below w.heap.size w w' := by
  obtain ⟨t, p, fn, rfl, hm, he, hc⟩ := h
  have hlo := hE.hi
  have hcall : Calls Tryd.prog fn #[p] (w.alloc (.cells #[.iface t p] 54)) fun e w'' => e = .returned (.string (bs s)) ∧ Below (w.alloc (.cells #[.iface t p] 54)).heap.size (w.alloc (.cells #[.iface t p] 54)) w'' :=
    hc _ (hw.trans ((Below.refl _ _).alloc (by have := hw.size; omega) _)) (hE.below ((Below.refl _ _).alloc hlo _))
  have HC := Lib.hid hcall
  obtain ⟨sb, hsb⟩ : ∃ sb, sb = bs s := ⟨_, rfl⟩
  rw [← hsb] at HC
  have hsz : sb.size ≤ 1000000 := by rw [hsb]; simpa [ByteArray.size] using hs
  have HS := Lib.hid hsb
  clear hc hcall hsb hs
  go_enter Tryd.func90, Tryd.ntmps90
  go_wp2_with fail
  refine Calls.mono HC.out ?_
  rintro r w2 ⟨rfl, hb2⟩
  go_wp2
  go_ret
  exact ⟨ret_str (by rw [HS.out]; rfl), ((Below.refl _ _).alloc (Nat.le_refl _) _).trans (hb2.mono (by simp))⟩
theorem itoa_size {n : Int} (hn : NumOk n) : (bs (Lib.itoa n)).size ≤ 21 := by
  have := Lib.itoa_length_le n (by have := hn.1; omega) (by have := hn.2; omega)
  simpa [ByteArray.size] using this
theorem data_app (a b : ByteArray) : (a ++ b).data.toList = a.data.toList ++ b.data.toList := by simp
set_option maxRecDepth 100000 in
theorem testT_has {lo f : Nat} {n : Int} (hf : f < 5) (hn : NumOk n) (w : World) (hE : EnvF lo w) :
    Calls Tryd.prog 97 #[.agg #[.int .i64 f, .int .i64 n, .int .i64 n, .bool true]] w fun e w' => e = .returned (.string (bs (txt (.has f n)))) ∧ Below w.heap.size w w' := by
  have hlo := hE.hi
  have hE1 := hE.below ((Below.refl _ _).alloc hlo (testObj f n n true))
  have hp := hE1.pf f hf
  obtain ⟨kf, hkf⟩ : ∃ kf, kf = kField f := ⟨_, rfl⟩
  rw [← hkf] at hp
  have hk4 : kf.size ≤ 4 := by rw [hkf]; have := kField_len f; simpa using this
  have hc := itoa_any hn _ hE1
  obtain ⟨sb, hsb⟩ : ∃ sb, sb = bs (Lib.itoa n) := ⟨_, rfl⟩
  rw [← hsb] at hc
  have hs21 : sb.size ≤ 21 := by rw [hsb]; exact itoa_size hn
  have HC := Lib.hid hc; have HS := Lib.hid hsb; have HK := Lib.hid hkf
  clear hc hsb hkf hE hE1
  go_enter Tryd.func97, Tryd.ntmps97
  go_wp2_with (go_at_call 24; refine HC.out.mono ?_; rintro r w2 ⟨rfl, hb2⟩)
  go_ret
  refine ⟨ret_str ?_, ((Below.refl _ _).alloc (Nat.le_refl _) _).trans (hb2.mono (by simp))⟩
  show ((kf ++ (⟨#[32]⟩ : ByteArray)) ++ (⟨#[104, 97, 115, 32]⟩ : ByteArray) ++ sb).data.toList = txt (.has f n)
  rw [data_app, data_app, data_app, HS.out, HK.out]
  simp only [txt, List.append_assoc]
  rfl
set_option maxRecDepth 100000 in
theorem testT_eq {lo f : Nat} {n : Int} (hf : f < 5) (hn : NumOk n) (w : World) (hE : EnvF lo w) :
    Calls Tryd.prog 97 #[.agg #[.int .i64 f, .int .i64 n, .int .i64 n, .bool false]] w fun e w' => e = .returned (.string (bs (txt (.test f n n)))) ∧ Below w.heap.size w w' := by
  have hlo := hE.hi
  have hE1 := hE.below ((Below.refl _ _).alloc hlo (testObj f n n false))
  have hp := hE1.pf f hf
  obtain ⟨kf, hkf⟩ : ∃ kf, kf = kField f := ⟨_, rfl⟩
  rw [← hkf] at hp
  have hk4 : kf.size ≤ 4 := by rw [hkf]; have := kField_len f; simpa using this
  have hc := itoa_any hn _ hE1
  obtain ⟨sb, hsb⟩ : ∃ sb, sb = bs (Lib.itoa n) := ⟨_, rfl⟩
  rw [← hsb] at hc
  have hs21 : sb.size ≤ 21 := by rw [hsb]; exact itoa_size hn
  have HC := Lib.hid hc; have HS := Lib.hid hsb; have HK := Lib.hid hkf
  clear hc hsb hkf hE hE1
  go_enter Tryd.func97, Tryd.ntmps97
  go_wp2_with (go_at_call 24; refine HC.out.mono ?_; rintro r w2 ⟨rfl, hb2⟩)
  go_ret
  refine ⟨ret_str ?_, ((Below.refl _ _).alloc (Nat.le_refl _) _).trans (hb2.mono (by simp))⟩
  show ((kf ++ (⟨#[32]⟩ : ByteArray)) ++ sb).data.toList = txt (.test f n n)
  rw [data_app, data_app, HS.out, HK.out]
  simp only [txt, if_true, List.append_nil]
set_option maxHeartbeats 1000000 in
set_option maxRecDepth 100000 in
theorem testT_ne {lo f : Nat} {n m : Int} (hf : f < 5) (hn : NumOk n) (hm : NumOk m) (hnm : n ≠ m) (w : World) (hE : EnvF lo w) :
    Calls Tryd.prog 97 #[.agg #[.int .i64 f, .int .i64 n, .int .i64 m, .bool false]] w fun e w' => e = .returned (.string (bs (txt (.test f n m)))) ∧ Below w.heap.size w w' := by
  have hlo := hE.hi
  have hx := heap_alloc_new w (testObj f n m false)
  have hE1 := hE.below ((Below.refl _ _).alloc hlo (testObj f n m false))
  have hp := hE1.pf f hf
  obtain ⟨kf, hkf⟩ : ∃ kf, kf = kField f := ⟨_, rfl⟩
  rw [← hkf] at hp
  have hk4 : kf.size ≤ 4 := by rw [hkf]; have := kField_len f; simpa using this
  obtain ⟨sn, hsn⟩ : ∃ sn, sn = bs (Lib.itoa n) := ⟨_, rfl⟩
  obtain ⟨sm, hsm⟩ : ∃ sm, sm = bs (Lib.itoa m) := ⟨_, rfl⟩
  have hn21 : sn.size ≤ 21 := by rw [hsn]; exact itoa_size hn
  have hm21 : sm.size ≤ 21 := by rw [hsm]; exact itoa_size hm
  have hcn : ∀ W, Below (w.alloc (testObj f n m false)).heap.size (w.alloc (testObj f n m false)) W → Calls Tryd.prog 24 #[.int .i64 n] W fun e w' => e = .returned (.string sn) ∧ Below W.heap.size W w' := fun W hb => by rw [hsn]; exact itoa_any hn W (hE1.below (hb.mono (by simp; omega)))
  have hcm : ∀ W, Below (w.alloc (testObj f n m false)).heap.size (w.alloc (testObj f n m false)) W → Calls Tryd.prog 24 #[.int .i64 m] W fun e w' => e = .returned (.string sm) ∧ Below W.heap.size W w' := fun W hb => by rw [hsm]; exact itoa_any hm W (hE1.below (hb.mono (by simp; omega)))
  have hne : (n == m) = false := by simpa using hnm
  have HCN := Lib.hid hcn; have HCM := Lib.hid hcm; have HSN := Lib.hid hsn; have HSM := Lib.hid hsm; have HK := Lib.hid hkf; have HX := Lib.hid hx
  obtain ⟨x0, x1, x2, x3, u0, u1, u2, u3⟩ := block4 hx
  have HNE := Lib.hid hnm
  clear hcn hcm hsn hsm hkf hE hE1 hx hnm u0 u1 u2 u3
  go_enter Tryd.func97, Tryd.ntmps97
  go_wp2_with fail
  refine wp_region_late (fun W => W.cell? ⟨w.heap.size, 1, none⟩ = some (.int .i64 n) ∧ W.cell? ⟨w.heap.size, 2, none⟩ = some (.int .i64 m)) [8] rfl ⟨x1, x2⟩ (fun hHeld => ?_)
  refine wpAnyT_takePD (i := 0) (d := 29) (oi := _) (v := ?zv1) rfl rfl (by kernel_rfl) (fun _ _ _ h => h) (Or.inl ⟨by rfl, ?zy1⟩) (by assumption) ?zr1
  case zy1 => (intro w hSw; (try dsimp only at hSw); go_split_ands; go_simp; (try rw [if_pos (by omega)]); (try go_simp); try with_reducible rfl)
  simp only [List.setIfInBounds_toArray, List.set_cons_zero, List.set_cons_succ]
  refine wpAnyT_takePD (i := 1) (d := 30) (oi := _) (v := ?zv2) rfl rfl (by kernel_rfl) (fun _ _ _ h => h) (Or.inl ⟨by rfl, ?zy2⟩) (by assumption) ?zr2
  case zy2 => (intro w hSw; (try dsimp only at hSw); go_split_ands; go_simp; (try rw [if_pos (by omega)]); (try go_simp); try with_reducible rfl)
  simp only [List.setIfInBounds_toArray, List.set_cons_zero, List.set_cons_succ]
  refine wpAnyT_takeD (i := 2) (d := 31) (oi := _) (v := ?zv3) rfl rfl (by kernel_rfl) (fun _ _ _ h => h) (Or.inl ⟨by rfl, ?zy3⟩) (by assumption) ?zr3
  case zy3 => (intro w hSw; (try dsimp only at hSw); go_split_ands; go_simp; (try rw [if_pos (by omega)]); (try go_simp); try with_reducible rfl)
  simp only [List.setIfInBounds_toArray, List.set_cons_zero, List.set_cons_succ]
  refine wpAnyT_takePD (i := 6) (d := 35) (oi := _) (v := ?zv4) rfl rfl (by kernel_rfl) (fun _ _ _ h => h) (Or.inl ⟨by rfl, ?zy4⟩) (by assumption) ?zr4
  case zy4 => (intro w hSw; (try dsimp only at hSw); go_split_ands; go_simp; (try rw [if_pos (by omega)]); (try go_simp); try with_reducible rfl)
  simp only [List.setIfInBounds_toArray, List.set_cons_zero, List.set_cons_succ]
  refine wpAnyT_takeD (i := 7) (d := 36) (oi := _) (v := ?zv5) rfl rfl (by kernel_rfl) (fun _ _ _ h => h) (Or.inl ⟨by rfl, ?zy5⟩) (by assumption) ?zr5
  case zy5 => (intro w hSw; (try dsimp only at hSw); go_split_ands; go_simp; (try rw [if_pos (by omega)]); (try go_simp); try with_reducible rfl)
  simp only [List.setIfInBounds_toArray, List.set_cons_zero, List.set_cons_succ]
  have hd : Below (w.alloc (testObj f n m false)).heap.size (w.alloc (testObj f n m false)) (w.alloc (testObj f n m false)).drew := ⟨rfl, rfl, rfl, Nat.le_refl _, fun _ _ => rfl⟩
  refine wpAnyT_ready (rs := [3]) (by kernel_rfl) (by simp) (AllReadyT.cons rfl (fun K2 hK2 => ?_) AllReadyT.nil)
  go_simp
  refine Calls.mono (HCN.out _ hd) ?_
  rintro r w2 ⟨rfl, hb2⟩
  have hb3 := hd.trans (hb2.mono hd.size)
  obtain ⟨y0, y1, y2, y3, _, _, _, _⟩ := block4 ((hb3.block w.heap.size (by simp)).trans HX.out)
  have HB3 := Lib.hid hb3
  clear hb2 hb3 hd hHeld
  refine hK2.out _ _ ⟨y1, y2⟩ (fun hHeld => ?_)
  refine wpAnyT_takePD (i := 4) (d := 33) (oi := _) (v := ?zv6) rfl rfl (by kernel_rfl) (fun _ _ _ h => h) (Or.inl ⟨by rfl, ?zy6⟩) (by assumption) ?zr6
  case zy6 => (intro w hSw; (try dsimp only at hSw); go_split_ands; go_simp; (try rw [if_neg (by omega)]); (try go_simp); try with_reducible rfl)
  simp only [List.setIfInBounds_toArray, List.set_cons_zero, List.set_cons_succ]
  refine wpAnyT_takePD (i := 5) (d := 34) (oi := _) (v := ?zv7) rfl rfl (by kernel_rfl) (fun _ _ _ h => h) (Or.inl ⟨by rfl, ?zy7⟩) (by assumption) ?zr7
  case zy7 => (intro w hSw; (try dsimp only at hSw); go_split_ands; go_simp; (try rw [if_neg (by omega)]); (try go_simp); try with_reducible rfl)
  simp only [List.setIfInBounds_toArray, List.set_cons_zero, List.set_cons_succ]
  refine wpAnyT_tail 8 (by simp) rfl (by simp) (by kernel_rfl) ?_
  simp only [List.drop_succ_cons, List.drop_zero]
  go_wp2_with (go_at_call 24; refine (HCM.out _ HB3.out).mono ?_; rintro r w4 ⟨rfl, hb4⟩)
  go_ret
  refine ⟨ret_str ?_, ((Below.refl _ _).alloc (Nat.le_refl _) _).trans ((HB3.out.trans (hb4.mono HB3.out.size)).mono (by simp))⟩
  show ((((kf ++ (⟨#[32]⟩ : ByteArray)) ++ sn) ++ (⟨#[46, 46]⟩ : ByteArray)) ++ sm).data.toList = txt (.test f n m)
  rw [data_app, data_app, data_app, data_app, HSN.out, HSM.out, HK.out]
  simp only [txt]
  rw [if_neg (fun h => HNE.out h.symm)]
  simp only [List.append_assoc]
theorem infoStr : (Tryd.prog.info? 9).map (fun i => (i.zero, i.size, i.bytes)) = some (some (.string ⟨#[]⟩), 1, 16) := by kernel_rfl
theorem row_full {W : World} {base e n : Nat} {v : Value} {xs : List Value} (h : W.ownsRow base e 1 v n xs) (hn : 0 < n) (hx : xs.length = n) :
    ∃ g c, v = .slice (some ⟨g, 0, none⟩) n c ∧ n ≤ c ∧ ∀ j (hj : j < xs.length), W.cell? ⟨g, j, none⟩ = some xs[j] := by
  have hh := h
  obtain ⟨g, c, he, _, hc⟩ := row_cells hh hn hx
  refine ⟨g, c, he, ?_, hc⟩
  obtain ⟨hl, h⟩ := h
  rcases h with ⟨rfl, h0⟩ | ⟨g', cap, cur, rfl, hb, hg, hn', hm, hs, ht⟩
  · omega
  · injection he with _ _ h3; omega
def strsOf (l : List (List UInt8)) : List Value := l.map fun s => .string (bs s)
set_option maxHeartbeats 2000000 in
set_option maxRecDepth 100000 in
theorem severalT {lo g n c : Nat} {o : Bool} {L : List (List UInt8)} {W : World} (hk : ∀ j (h : j < L.length), ∃ u, W.cell? ⟨g, j, none⟩ = some u ∧ InvT lo W u L[j]) (hL : L.length = n) (h0 : 0 < n) (hn : n ≤ 200000) (hj : (Lib.join L (sepOf o)).length ≤ 1000000)
    (w : World) (hw : Below W.heap.size W w) (hE : EnvF lo w) :
    Calls Tryd.prog 92 #[.agg #[.slice (some ⟨g, 0, none⟩) n c, .bool o]] w fun e w' => e = .returned (.string (bs ([40] ++ Lib.join L (sepOf o) ++ [41]))) ∧ Below w.heap.size w w' := by
  have hk2 : ∀ j (h : j < L.length), ∃ u, w.cell? ⟨g, j, none⟩ = some u ∧ InvT lo w u L[j] := fun j hj => by
    obtain ⟨u, h1, h2⟩ := hk j hj
    exact ⟨u, below_cell hw h1 (World.block_lt_of_cell? W _ h1), h2.below hw⟩
  have hlo := hE.hi
  have HK := Lib.hid hk2; have HE := Lib.hid hE; have HL := Lib.hid hL; have HJ := Lib.hid hj
  clear hk hk2 hw hE hL hj
  go_enter Tryd.func92, Tryd.ntmps92
  go_wp2_with fail
  go_loopg [3, 10] n (fun gk lv kv W => Below w.heap.size w W ∧ W.heap[w.heap.size]? = some (sevObj (.slice (some ⟨g, 0, none⟩) n c) o) ∧ ∃ k : Nat, kv = .int .i64 k ∧ k + gk = n ∧ W.ownsRow (w.heap.size + 1) 9 1 lv k (strsOf (L.take k)))
  case atStart =>
    exact ⟨(Below.refl _ _).alloc (Nat.le_refl _) _, heap_alloc_new _ _, 0, rfl, by omega, World.ownsRow_nil _ _ _ _⟩
  case round =>
    obtain ⟨hb, hF, k, rfl, hkg, ho⟩ := hrel
    obtain ⟨s0, s1, _, _⟩ := block2 hF
    have hFl := (Array.getElem?_eq_some_iff.1 hF).1
    have HB := Lib.hid hb; have HF := Lib.hid hF; have HO := Lib.hid ho
    clear hF hb ho
    by_cases hlt : k < n
    · obtain ⟨m, rfl⟩ : ∃ m, gk = m + 1 := ⟨gk - 1, by omega⟩
      have hkL : k < L.length := by rw [HL.out]; exact hlt
      obtain ⟨u, hu, hi⟩ := HK.out k hkL
      obtain ⟨t, p, fn, rfl, hm, he, hc⟩ := hi.below HB.out
      have hu2 : wr.cell? ⟨g, k, none⟩ = some (.iface t p) := below_cell HB.out hu (World.block_lt_of_cell? w _ hu)
      have hcall := hc wr (Below.refl _ _) (HE.out.below (HB.out.mono hlo))
      obtain ⟨sb, hsb⟩ : ∃ sb, sb = bs L[k] := ⟨_, rfl⟩
      rw [← hsb] at hcall
      have htk : strsOf (L.take k) ++ [.string sb] = strsOf (L.take (k + 1)) := by
        unfold strsOf
        rw [List.take_succ_eq_append_getElem hkL, List.map_append, hsb]; rfl
      have HC := Lib.hid hcall; have HTK := Lib.hid htk
      clear hc hu hi hcall hsb htk
      go_wp2_with fail
      refine Calls.mono HC.out ?_
      rintro r w2 ⟨rfl, hb2⟩
      have hkv : ∀ b, u3.ownBlock = some b → w.heap.size + 1 ≤ b ∧ b < wr.heap.size := fun b hb => HO.out.lt b hb
      have hown : w2.ownsRow (w.heap.size + 1) 9 1 u3 k (strsOf (L.take k)) := HO.out.kept (row := none) ⟨hb2.os, hb2.tape, hb2.output, hb2.size, fun j hj _ => hb2.block j hj⟩ (by cases u3.ownBlock <;> simp)
      have hsz2 : w.heap.size + 1 ≤ w2.heap.size := by have := hb2.size; omega
      have HB2 := Lib.hid hb2; have HKV := Lib.hid hkv
      clear hb2 hkv
      go_wp2_with (at_builtin; refine wpList_append_fresh rfl _ _ 47 rfl (w.heap.size + 1) 9 (.string ⟨#[]⟩) 1 16 Tryd.underlying47 infoStr rfl (by decide) u3 _ _ rfl w2 hown 1 [.string sb] 0 rfl rfl rfl (by simp [Value.oneCell']) (by decide) (by omega) (by omega) hsz2 ?_; intro g1 cp1 w6 ho6 hgr6 hat6 hlt6; have HO6 := Lib.hid ho6; have HGR6 := Lib.hid hgr6; clear ho6 hgr6 hat6)
      go_roundg m
      case measure => omega
      case rel =>
        have h26 : ∀ b, b < wr.heap.size → b ≤ w.heap.size → w6.heap[b]? = wr.heap[b]? := fun b h1 h2 => (HGR6.out.block b (by have := HB2.out.size; omega) (fun e => by have := (HKV.out b e.symm).1; omega)).trans (HB2.out.block b h1)
        have hs6 := HGR6.out.size
        have hs2 := HB2.out.size
        refine ⟨⟨(HGR6.out.os.trans HB2.out.os).trans HB.out.os, (HGR6.out.tape.trans HB2.out.tape).trans HB.out.tape, (HGR6.out.output.trans HB2.out.output).trans HB.out.output, by omega, fun b hb => (h26 b (by omega) (by omega)).trans (HB.out.block b hb)⟩, (h26 _ hFl (Nat.le_refl _)).trans HF.out, k + 1, by go_num, by omega, ?_⟩
        rw [← HTK.out]
        exact HO6.out
    · obtain rfl : k = n := by omega
      have hfull : strsOf (L.take k) = strsOf L := by rw [List.take_of_length_le (by rw [HL.out]; omega)]
      have ho := HO.out
      rw [hfull] at ho
      obtain ⟨g', c', rfl, hkc, hcells⟩ := row_full ho h0 (by simp [strsOf, HL.out])
      obtain ⟨jb, hjb⟩ : ∃ jb, jb = bs (Lib.join L (sepOf o)) := ⟨_, rfl⟩
      have hjsz : jb.size ≤ 1000000 := by rw [hjb]; have := HJ.out; simpa [ByteArray.size] using this
      have hjoin : Calls Tryd.prog 25 #[.slice (some ⟨g', 0, none⟩) k c', .string (bs (sepOf o))] wr fun e w' => e = .returned (.string jb) ∧ Below wr.heap.size wr w' := by
        have hx : (L.map bs).length = k := by rw [List.length_map]; exact HL.out
        have hm : ((L.map bs).map (·.data.toList)) = L := by simp [Function.comp_def]
        have hmm : (bs (sepOf o)).data.toList = sepOf o := by simp
        have h := Tryd.strings_Join g' 0 c' (L.map bs) (bs (sepOf o)) wr (fun j x hjx => by
          have hjl := (List.getElem?_eq_some_iff.1 hjx).1
          have h1 := hcells j (by simpa [strsOf] using hjl)
          rw [Nat.zero_add, h1]
          simp only [strsOf, List.getElem_map]
          rw [List.getElem?_map] at hjx
          obtain ⟨y, hy, rfl⟩ := Option.map_eq_some_iff.1 hjx
          rw [List.getElem?_eq_some_iff] at hy
          obtain ⟨_, rfl⟩ := hy; rfl) (by have := hcells 0 (by simp [strsOf, HL.out]; exact h0); exact World.block_lt_of_cell? wr _ this) (by rw [hx]; omega) (by rw [hx]; exact hkc) (by rw [hm, hmm]; have := HJ.out; omega)
        rw [hx, hm, hmm] at h
        rw [hjb]; exact h
      have HJN := Lib.hid hjoin; have HJB := Lib.hid hjb
      clear hjoin hjb hcells ho hfull
      cases o with
      | true =>
        have HJN' : Hid (Calls Tryd.prog 25 #[.slice (some ⟨g', 0, none⟩) k c', .string ⟨#[32, 111, 114, 32]⟩] wr fun e w' => e = .returned (.string jb) ∧ Below wr.heap.size wr w') := HJN
        clear HJN
        go_wp2_with (go_at_call 25; refine HJN'.out.mono ?_; rintro r w7 ⟨rfl, hb7⟩)
        go_ret
        refine ⟨ret_str ?_, HB.out.trans (hb7.mono HB.out.size)⟩
        show (((⟨#[40]⟩ : ByteArray) ++ jb) ++ (⟨#[41]⟩ : ByteArray)).data.toList = _
        rw [data_app, data_app, HJB.out]; rfl
      | false =>
        have HJN' : Hid (Calls Tryd.prog 25 #[.slice (some ⟨g', 0, none⟩) k c', .string ⟨#[32, 97, 110, 100, 32]⟩] wr fun e w' => e = .returned (.string jb) ∧ Below wr.heap.size wr w') := HJN
        clear HJN
        go_wp2_with (go_at_call 25; refine HJN'.out.mono ?_; rintro r w7 ⟨rfl, hb7⟩)
        go_ret
        refine ⟨ret_str ?_, HB.out.trans (hb7.mono HB.out.size)⟩
        show (((⟨#[40]⟩ : ByteArray) ++ jb) ++ (⟨#[41]⟩ : ByteArray)).data.toList = _
        rw [data_app, data_app, HJB.out]; rfl
mutual
theorem vast_ok {S : Nat → Prop} {W : World} : ∀ {A : Ast} {v : Value}, VAst S W v A → AstOk A
  | .any, _, _ => trivial
  | .test f lo hi, v, h => by unfold VAst at h; exact ⟨h.2.2.1, h.2.2.2⟩
  | .has f lo, v, h => by unfold VAst at h; exact h.2.2
  | .not A, v, h => by unfold VAst at h; obtain ⟨u, _, h1⟩ := h; unfold AstOk; exact vast_ok h1
  | .several o l, v, h => by unfold VAst at h; obtain ⟨_, g, c, _, _, h1⟩ := h; unfold AstOk; exact vasts_ok h1
theorem vasts_ok {S : Nat → Prop} {W : World} : ∀ {l : List Ast} {g i : Nat}, VKids S W g i l → AstsOk l
  | [], _, _, _ => trivial
  | A :: l, g, i, h => by
    unfold VKids at h
    obtain ⟨⟨u, _, h2⟩, h3⟩ := h
    unfold AstsOk
    exact ⟨vast_ok h2, vasts_ok h3⟩
end
mutual
/-- Text of the program's filters is the document's. -/
theorem vtext {lo : Nat} {S : Nat → Prop} {W : World} : ∀ {A : Ast} {v : Value}, VAst S W v A → wgt A ≤ 10000 → InvT lo W v (txt A)
  | .any, v, h, _ => by
    unfold VAst at h
    subst h
    exact ⟨_, _, 94, rfl, fun w => by kernel_rfl, Tryd.call94, fun w _ _ => alwaysT w⟩
  | .test f n m, v, h, _ => by
    unfold VAst at h
    obtain ⟨rfl, h1, h2, h3⟩ := h
    by_cases hnm : n = m
    · subst hnm
      exact ⟨_, _, 97, rfl, fun w => by kernel_rfl, Tryd.call97, fun w _ hE => testT_eq h1 h2 w hE⟩
    · exact ⟨_, _, 97, rfl, fun w => by kernel_rfl, Tryd.call97, fun w _ hE => testT_ne h1 h2 h3 hnm w hE⟩
  | .has f n, v, h, _ => by
    unfold VAst at h
    obtain ⟨rfl, h1, h2⟩ := h
    exact ⟨_, _, 97, rfl, fun w => by kernel_rfl, Tryd.call97, fun w _ hE => testT_has h1 h2 w hE⟩
  | .not A, v, h, hw => by
    unfold VAst at h
    obtain ⟨u, rfl, h1⟩ := h
    simp only [wgt] at hw
    have hu := vtext (lo := lo) h1 (by omega)
    have hl := txt_len (vast_ok h1)
    simp only [txt]
    exact ⟨_, _, 90, rfl, fun w => by kernel_rfl, Tryd.call90, fun w hb hE => notT hu w hb hE (by omega)⟩
  | .several o l, v, h, hw => by
    have hl := txt_len (vast_ok h)
    unfold VAst at h
    obtain ⟨h0, g, c, rfl, _, hk⟩ := h
    have hw2 : wgt (.several o l) = 2 + wgts l := by simp only [wgt]
    rw [hw2] at hw hl
    have hks := vtexts (lo := lo) hk (by omega)
    simp only [txt] at hl ⊢
    simp only [List.length_append, List.length_cons, List.length_nil] at hl
    exact ⟨_, _, 92, rfl, fun w => by kernel_rfl, Tryd.call92, fun w hb hE =>
      severalT (L := txts l) (fun j hj => by have := hks j hj; rwa [Nat.zero_add] at this) (txts_length l) h0.1 h0.2 (by omega) w hb hE⟩
theorem vtexts {lo : Nat} {S : Nat → Prop} {W : World} : ∀ {l : List Ast} {g i : Nat}, VKids S W g i l → wgts l ≤ 10000 → ∀ j (h : j < (txts l).length), ∃ u, W.cell? ⟨g, i + j, none⟩ = some u ∧ InvT lo W u (txts l)[j]
  | [], _, _, _, _, j, hj => by simp [txts] at hj
  | A :: l, g, i, h, hw, j, hj => by
    unfold VKids at h
    obtain ⟨⟨u, h1, h2⟩, h3⟩ := h
    simp only [wgts] at hw
    cases j with
    | zero =>
      refine ⟨u, h1, ?_⟩
      have := vtext (lo := lo) h2 (by omega)
      simpa only [txts, List.getElem_cons_zero] using this
    | succ j =>
      have hj2 : j < (txts l).length := by simp only [txts, List.length_cons] at hj; omega
      obtain ⟨u', h4, h5⟩ := vtexts (lo := lo) h3 (by omega) j hj2
      refine ⟨u', by rw [show i + (j + 1) = i + 1 + j by omega]; exact h4, ?_⟩
      simpa only [txts, List.getElem_cons_succ] using h5
end
end Go.Proofs.YtfjfbiocjloilaaDoor
