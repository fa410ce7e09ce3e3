/-
  What is proved here: the program's filter with not ahead of tests alone (11.3).
-/
import Derived.Test.YtfjfbiocjloilaaDoorFiltI0
import Derived.Test.YtfjfbiocjloilaaDoorFiltV3
namespace Go.Proofs.YtfjfbiocjloilaaDoor
open Go.RowKit Go.Sort

def RVP (N : Nat) (w : World) (a : Ast) (e : Ending) (w' : World) : Prop := ∃ v, e = .returned v ∧ Below w.heap.size w w' ∧ VAst (fun b => b < N ∨ w.heap.size ≤ b) w' v a
def InVS (N : Nat) (w : World) (X : Nat) (kv : Value) (b : Nat) : Prop := (b < N ∨ w.heap.size ≤ b) ∧ b ≠ X ∧ kv.ownBlock ≠ some b
def InRelV (N : Nat) (w W : World) (X k : Nat) (q : Bool) (kv : Value) (vs : List Value) (l : List Ast) : Prop :=
  Below w.heap.size w W ∧ W.heap[X]? = some (sevObj kv q) ∧ W.ownsRow (X + 1) tIf 1 kv k vs ∧ vs.length = k ∧ VKidsL (InVS N w X kv) W vs l
theorem block2_set0 {W : World} {b : Nat} {x y x' : Value} {t : TypeId} (h : W.heap[b]? = some (.cells #[x, y] t (0, 0))) :
    (W.setCell ⟨b, 0, none⟩ x').heap[b]? = some (.cells #[x', y] t (0, 0)) := by
  simp [World.setCell, Array.getElem?_modify, h]
theorem in_roundV {N X : Nat} {w wr w5 w6 : World} {k g1 cp1 : Nat} {q : Bool} {kv v : Value} {vs : List Value} {l : List Ast} {a : Ast} (hN : N ≤ w.heap.size) (hX : w.heap.size ≤ X) (h : InRelV N w wr X k q kv vs l) (hb5 : Below wr.heap.size wr w5)
    (hr : VAst (fun b => b < N ∨ wr.heap.size ≤ b) w5 v a) (ho6 : w6.ownsRow (X + 1) tIf 1 (.slice (some ⟨g1, 0, none⟩) (k + 1) cp1) (k + 1) (vs ++ [v])) (hgr6 : w5.grownBy w6 kv.ownBlock)
    (hat6 : kv.ownBlock = some g1 ∨ g1 = w5.heap.size + 1) :
    InRelV N w (w6.setCell ⟨X, 0, none⟩ (.slice (some ⟨g1, 0, none⟩) (k + 1) cp1)) X (k + 1) q (.slice (some ⟨g1, 0, none⟩) (k + 1) cp1) (vs ++ [v]) (l ++ [a]) := by
  obtain ⟨hb, hf, ho, hks, hk⟩ := h
  have hkv : ∀ b, kv.ownBlock = some b → X + 1 ≤ b ∧ b < wr.heap.size := fun b hb => ho.lt b hb
  have hFl : X < wr.heap.size := (Array.getElem?_eq_some_iff.1 hf).1
  have hs5 := hb5.size
  have hs6 := hgr6.size
  have hgF : X + 1 ≤ g1 := by
    rcases hat6 with h | h
    · exact (hkv _ h).1
    · omega
  have hf5 := (hb5.block _ hFl).trans hf
  have hf6 : w6.heap[X]? = some (sevObj kv q) := (hgr6.block _ (by omega) (fun e => by have := (hkv _ e.symm).1; omega)).trans hf5
  have hset2 : ∀ b, b ≠ X → (w6.setCell ⟨X, 0, none⟩ (.slice (some ⟨g1, 0, none⟩) (k + 1) cp1)).heap[b]? = w6.heap[b]? := fun b hb => Below.heap_setCell w6 ⟨X, 0, none⟩ (.slice (some ⟨g1, 0, none⟩) (k + 1) cp1) b hb
  refine ⟨?_, block2_set0 hf6, ?_, by simp [hks], VKidsL.snoc (hr.kept fun b hb' hlt => ?_) (hk.kept fun b hb' hlt => ?_)⟩
  · refine RowKit.Below.setCell (a := w) ⟨(hgr6.os.trans hb5.os).trans hb.os, (hgr6.tape.trans hb5.tape).trans hb.tape, (hgr6.output.trans hb5.output).trans hb.output, by have := hb.size; omega, fun q hq => ((hgr6.block q (by omega) (fun e => by have := (hkv q e.symm).1; omega)).trans (hb5.block q (by omega))).trans (hb.block q hq)⟩ hX _
  · exact ho6.kept (grownBy_setCell (b := X) (grownBy_refl _ _) 0 (.slice (some ⟨g1, 0, none⟩) (k + 1) cp1)) (.inr (by simp [Value.ownBlock]; omega))
  · have hne : g1 ≠ b := fun e => by
      rcases hat6 with h | h
      · have := (hkv _ h).2; have := (hkv _ h).1; omega
      · omega
    refine ⟨⟨by have := hb.size; omega, by omega, by simpa [Value.ownBlock] using hne⟩, ?_⟩
    rw [hset2 b (by omega)]
    exact hgr6.block b hlt (fun e => by have := hkv b e.symm; omega)
  · obtain ⟨hb1, hb2, hb3⟩ := hb'
    have hne : g1 ≠ b := fun e => by
      rcases hat6 with h | h
      · exact hb3 (e ▸ h)
      · omega
    refine ⟨⟨hb1, hb2, by simpa [Value.ownBlock] using hne⟩, ?_⟩
    rw [hset2 b hb2]
    exact (hgr6.block b (by omega) (fun e => hb3 e.symm)).trans (hb5.block b hlt)
theorem in_doneV {N X : Nat} {w W : World} {n : Nat} {q : Bool} {kv : Value} {vs : List Value} {l : List Ast} (hX : w.heap.size ≤ X) (h : InRelV N w W X n q kv vs l) (h0 : 0 < n) (h9 : n ≤ 200000) : RVP N w (.several q l) (.returned (.iface 57 (.agg #[kv, .bool q]))) W := by
  obtain ⟨hb, hf, ho, hks, hk⟩ := h
  have hl := hk.len
  obtain ⟨g, c, rfl, hg, hc⟩ := row_cells ho h0 (by simp [hks])
  refine ⟨_, rfl, hb, ?_⟩
  unfold VAst
  exact ⟨⟨by omega, by omega⟩, g, c, by rw [← hl, hks], .inr (by omega), vkids_of (ks := vs) (fun j hj => by have := hc j hj; simpa using this) (hk.kept fun b hb _ => ⟨hb.1, rfl⟩)⟩
theorem ta_not_always (v : Value) (xT : TypeId) (w : World) : (Instr.typeAssert (.iface 70 v) xT 54 true).run Tryd.prog w = .ok (.tuple #[(.agg #[.nilIface]), .bool false]) w := by kernel_rfl
theorem ta_not_test (v : Value) (xT : TypeId) (w : World) : (Instr.typeAssert (.iface 80 v) xT 54 true).run Tryd.prog w = .ok (.tuple #[(.agg #[.nilIface]), .bool false]) w := by kernel_rfl
theorem ta_not_not (v : Value) (xT : TypeId) (w : World) : (Instr.typeAssert (.iface 54 v) xT 54 true).run Tryd.prog w = .ok (.tuple #[v, .bool true]) w := by kernel_rfl
theorem ta_not_several (v : Value) (xT : TypeId) (w : World) : (Instr.typeAssert (.iface 57 v) xT 54 true).run Tryd.prog w = .ok (.tuple #[(.agg #[.nilIface]), .bool false]) w := by kernel_rfl
theorem ta_several_always (v : Value) (xT : TypeId) (w : World) : (Instr.typeAssert (.iface 70 v) xT 57 true).run Tryd.prog w = .ok (.tuple #[(.agg #[.slice none 0 0, .bool false]), .bool false]) w := by kernel_rfl
theorem ta_several_test (v : Value) (xT : TypeId) (w : World) : (Instr.typeAssert (.iface 80 v) xT 57 true).run Tryd.prog w = .ok (.tuple #[(.agg #[.slice none 0 0, .bool false]), .bool false]) w := by kernel_rfl
theorem ta_several_not (v : Value) (xT : TypeId) (w : World) : (Instr.typeAssert (.iface 54 v) xT 57 true).run Tryd.prog w = .ok (.tuple #[(.agg #[.slice none 0 0, .bool false]), .bool false]) w := by kernel_rfl
theorem ta_several_several (v : Value) (xT : TypeId) (w : World) : (Instr.typeAssert (.iface 57 v) xT 57 true).run Tryd.prog w = .ok (.tuple #[v, .bool true]) w := by kernel_rfl
set_option maxRecDepth 100000 in
/-- Tests, as they are. -/
theorem vin_leaf {N : Nat} {w : World} {v : Value} {t : TypeId} {p : Value} (hv : v = .iface t p) (ht : t = 70 ∨ t = 80) {a : Ast} (h : VAst (fun b => b < N) w v a) :
    Calls Tryd.prog 6 #[v] w (RVP N w a) := by
  subst hv
  have H := Lib.hid h
  clear h
  have ha0 := ta_not_always
  have ha1 := ta_not_test
  have ha2 := ta_not_not
  have ha3 := ta_not_several
  have ha4 := ta_several_always
  have ha5 := ta_several_test
  have ha6 := ta_several_not
  have ha7 := ta_several_several
  rcases ht with rfl | rfl
  all_goals (go_enter Tryd.func6, Tryd.ntmps6)
  all_goals (go_wp2)
  all_goals (go_ret)
  all_goals (exact ⟨_, rfl, Below.refl _ _, H.out.kept fun b hb _ => ⟨.inl hb, rfl⟩⟩)
set_option maxRecDepth 100000 in
/-- Not of a test, as it is. -/
theorem vin_notleaf {N : Nat} {w : World} {t : TypeId} {p : Value} (ht : t = 70 ∨ t = 80) {a : Ast} (h : VAst (fun b => b < N) w (.iface 54 (.agg #[.iface t p])) a) :
    Calls Tryd.prog 6 #[.iface 54 (.agg #[.iface t p])] w (RVP N w a) := by
  have H := Lib.hid h
  clear h
  have ha0 := ta_not_always
  have ha1 := ta_not_test
  have ha2 := ta_not_not
  have ha3 := ta_not_several
  have ha4 := ta_several_always
  have ha5 := ta_several_test
  have ha6 := ta_several_not
  have ha7 := ta_several_several
  rcases ht with rfl | rfl
  all_goals (go_enter Tryd.func6, Tryd.ntmps6)
  all_goals (go_wp2)
  all_goals (go_ret)
  all_goals (exact ⟨_, rfl, (Below.refl _ _).alloc (Nat.le_refl _) _, H.out.kept fun b hb hl => ⟨.inl hb, Below.heap_alloc _ _ _ hl⟩⟩)
set_option maxRecDepth 100000 in
/-- Not of not. -/
theorem vin_notnot {N : Nat} {w : World} {ut : TypeId} {up : Value} {a : Ast} (IH : ∀ W, Below w.heap.size w W → Calls Tryd.prog 6 #[.iface ut up] W (RVP N W a)) :
    Calls Tryd.prog 6 #[.iface 54 (.agg #[.iface 54 (.agg #[.iface ut up])])] w (RVP N w a) := by
  have hb2 : Below w.heap.size w ((w.alloc (.cells #[.iface 54 (.agg #[.iface ut up])] 54)).alloc (.cells #[.iface ut up] 54)) := ((Below.refl _ _).alloc (Nat.le_refl _) _).alloc (by simp) _
  have HI := Lib.hid (IH _ hb2)
  have HB := Lib.hid hb2
  clear IH hb2
  have ha0 := ta_not_always
  have ha1 := ta_not_test
  have ha2 := ta_not_not
  have ha3 := ta_not_several
  have ha4 := ta_several_always
  have ha5 := ta_several_test
  have ha6 := ta_several_not
  have ha7 := ta_several_several
  go_enter Tryd.func6, Tryd.ntmps6
  go_wp2_with (go_at_call 6; refine HI.out.mono ?_; rintro r w3 ⟨v3, rfl, hb3, hA⟩)
  go_ret
  exact ⟨v3, rfl, HB.out.trans (hb3.mono HB.out.size), hA.kept fun b hb _ => ⟨by rcases hb with h | h; exact .inl h; exact .inr (Nat.le_trans HB.out.size h), rfl⟩⟩
set_option maxHeartbeats 2000000 in
set_option maxRecDepth 100000 in
/-- Several. -/
theorem vin_several {N g c n : Nat} {o : Bool} {L : List Ast} {w : World} (hL : L.length = n) (h0 : 0 < n) (hn : n ≤ 200000) (hN : N ≤ w.heap.size)
    (hk : ∀ W, Below w.heap.size w W → ∀ j (h : j < L.length), ∃ ut up, W.cell? ⟨g, j, none⟩ = some (.iface ut up) ∧ Calls Tryd.prog 6 #[.iface ut up] W (RVP N W L[j])) :
    Calls Tryd.prog 6 #[.iface 57 (.agg #[.slice (some ⟨g, 0, none⟩) n c, .bool o])] w (RVP N w (.several o L)) := by
  have hS : Below w.heap.size w (((w.alloc (.cells #[.slice (some ⟨g, 0, none⟩) n c, .bool o] 57)).alloc (sevObj (.slice none 0 0) o))) ∧ (((w.alloc (.cells #[.slice (some ⟨g, 0, none⟩) n c, .bool o] 57)).alloc (sevObj (.slice none 0 0) o))).heap[w.heap.size + 1]? = some (sevObj (.slice none 0 0) o) := ⟨((Below.refl _ _).alloc (Nat.le_refl _) _).alloc (by simp) _, by rw [show w.heap.size + 1 = (w.alloc (.cells #[.slice (some ⟨g, 0, none⟩) n c, .bool o] 57)).heap.size by simp]; exact heap_alloc_new _ _⟩
  have hXX : w.heap.size ≤ w.heap.size + 1 := by omega
  have HK := Lib.hid hk; have HL := Lib.hid hL; have HS := Lib.hid hS
  clear hk hL hS
  have ha0 := ta_not_always
  have ha1 := ta_not_test
  have ha2 := ta_not_not
  have ha3 := ta_not_several
  have ha4 := ta_several_always
  have ha5 := ta_several_test
  have ha6 := ta_several_not
  have ha7 := ta_several_several
  go_enter Tryd.func6, Tryd.ntmps6
  go_wp2_with fail
  refine wp_forget (fun W => Below w.heap.size w W ∧ W.heap[w.heap.size + 1]? = some (sevObj (.slice none 0 0) o)) HS.out ?_
  clear HS
  rintro wS hS
  obtain ⟨X, hXe⟩ : ∃ X, X = w.heap.size + 1 := ⟨_, rfl⟩
  rw [← hXe] at hS hXX ⊢
  have HS := Lib.hid hS
  clear hS hXe
  go_loopg [12, 60] n (fun gk xv iv W => ∃ (k : Nat) (kv : Value) (vs : List Value), k + gk = n ∧ iv = .int .i64 k ∧ InRelV N w W X k o kv vs (L.take k))
  case atStart => exact ⟨0, .slice none 0 0, [], by omega, rfl, HS.out.1, HS.out.2, World.ownsRow_nil _ _ _ _, rfl, trivial⟩
  case round =>
    obtain ⟨k, kv, vs, hkg, rfl, hrel⟩ := hrel
    have hb := hrel.1
    have hf := hrel.2.1
    have hFl : X < wr.heap.size := (Array.getElem?_eq_some_iff.1 hf).1
    by_cases hlt : k < n
    · obtain ⟨m, rfl⟩ : ∃ m, gk = m + 1 := ⟨gk - 1, by omega⟩
      have hkL : k < L.length := by rw [HL.out]; exact hlt
      obtain ⟨ut, up, hc, _⟩ := HK.out wr hb k hkL
      have hbd : Below w.heap.size w wr.drew := hb.trans ⟨rfl, rfl, rfl, Nat.le_refl _, fun _ _ => rfl⟩
      obtain ⟨ut', up', hc', hcall⟩ := HK.out wr.drew hbd k hkL
      obtain ⟨rfl, rfl⟩ : ut' = ut ∧ up' = up := by
        have h7 := Option.some.inj ((show wr.cell? ⟨g, k, none⟩ = some (.iface ut' up') from hc').symm.trans hc)
        injection h7 with h7 h8; exact ⟨h7, h8⟩
      obtain ⟨q0, q1, r0, r1⟩ := block2 hf
      have HR := Lib.hid hrel; have HF := Lib.hid hf; have HB := Lib.hid hb; have HC := Lib.hid hcall
      have htk : L.take (k + 1) = L.take k ++ [L[k]] := List.take_succ_eq_append_getElem hkL
      have HTK := Lib.hid htk
      clear hrel hf hb hcall hc' hbd htk
      go_wp2_with fail
      refine wp_region_late (fun W => W.cell? ⟨X, 0, none⟩ = some kv) [5] rfl (by simpa using q0) (fun hHeld => ?_)
      refine wpAnyT_takePD (i := 0) (d := 64) (oi := _) (v := ?zv1) rfl rfl (by kernel_rfl) (fun _ _ _ h => h) (Or.inl ⟨by rfl, ?zy1⟩) (by assumption) ?zr1
      case zy1 => (intro w hSw; (try dsimp only at hSw); go_split_ands; go_simp; (try rw [if_pos (by omega)]); (try go_simp); try with_reducible rfl)
      simp only [List.setIfInBounds_toArray, List.set_cons_zero, List.set_cons_succ]
      refine wpAnyT_takeD (i := 1) (d := 65) (oi := _) (v := ?zv2) rfl rfl (by kernel_rfl) (fun _ _ _ h => h) (Or.inl ⟨by rfl, ?zy2⟩) (by assumption) ?zr2
      case zy2 => (intro w hSw; (try dsimp only at hSw); go_split_ands; go_simp; (try rw [if_pos (by omega)]); (try go_simp); try with_reducible rfl)
      simp only [List.setIfInBounds_toArray, List.set_cons_zero, List.set_cons_succ]
      refine wpAnyT_takePD (i := 2) (d := 66) (oi := _) (v := ?zv3) rfl rfl (by kernel_rfl) (fun _ _ _ h => h) (Or.inl ⟨by rfl, ?zy3⟩) (by assumption) ?zr3
      case zy3 => (intro w hSw; (try dsimp only at hSw); go_split_ands; go_simp; (try rw [if_pos (by omega)]); (try go_simp); try with_reducible rfl)
      simp only [List.setIfInBounds_toArray, List.set_cons_zero, List.set_cons_succ]
      refine wpAnyT_ready (rs := [3]) (by kernel_rfl) (by simp) (AllReadyT.cons rfl (fun K2 hK2 => ?_) AllReadyT.nil)
      go_simp
      refine Calls.mono HC.out ?_
      rintro r w5 ⟨v5, rfl, hb5, hA⟩
      obtain ⟨ft, fp, rfl⟩ := hA.iface
      have hb6 : Below wr.heap.size wr w5 := ⟨hb5.os, hb5.tape, hb5.output, hb5.size, hb5.block⟩
      have hf5 := (hb6.block _ hFl).trans HF.out
      obtain ⟨b0, b1, c0, c1⟩ := block2 hf5
      have HB5 := Lib.hid hb6; have HA := Lib.hid hA; have HF5 := Lib.hid hf5
      clear hb5 hb6 hA hf5
      refine hK2.out _ _ b0 (fun _ => ?_)
      refine wpAnyT_ready (rs := [4]) (by kernel_rfl) (by simp) (AllReadyT.cons rfl (fun K3 hK3 => ?_) AllReadyT.nil)
      go_simp
      refine hK3.out _ _ ?_ (fun _ => ?_)
      · exact (World.cell?_alloc_some _ _ _ (by rw [b0]; rfl)).trans b0
      refine wpAnyT_tail 5 (by simp) rfl (by simp) (by kernel_rfl) ?_
      simp only [List.drop_succ_cons, List.drop_zero]
      have hkvb : ∀ b, kv.ownBlock = some b → X + 1 ≤ b ∧ b < wr.heap.size := fun b hb => HR.out.2.2.1.lt b hb
      have hown : w5.ownsRow (X + 1) tIf 1 kv k vs := HR.out.2.2.1.kept (row := none) ⟨HB5.out.os, HB5.out.tape, HB5.out.output, HB5.out.size, fun j hj _ => HB5.out.block j hj⟩ (by cases kv.ownBlock <;> simp)
      have hsz5 : X + 1 ≤ w5.heap.size := by have := HB5.out.size; omega
      have hcl : Hid True := Lib.hid trivial
      have HKV := Lib.hid hkvb
      clear hkvb
      go_wp2_with (at_builtin; refine wpList_append_fresh rfl _ _ 55 rfl (X + 1) 29 .nilIface 1 16 Tryd.underlying55 infoIf rfl (by decide) kv _ _ rfl w5 hown 1 [.iface ft fp] 0 rfl rfl rfl (by simp [Value.oneCell']) (by decide) (by omega) (by omega) hsz5 ?_; intro g1 cp1 w6 ho6 hgr6 hat6 hlt6; have hf6 := (hgr6.block X (by omega) (fun e => by have := (HKV.out _ e.symm).1; omega)).trans HF5.out; obtain ⟨d0, d1, i0, i1⟩ := block2 hf6; have HO6 := Lib.hid ho6; have HGR6 := Lib.hid hgr6; have HAT6 := Lib.hid hat6; clear hf6 ho6 hgr6 hat6)
      go_roundg m
      case measure => omega
      case rel => exact ⟨k + 1, _, _, by omega, by go_num, by rw [HTK.out]; exact in_roundV hN hXX HR.out HB5.out HA.out HO6.out HGR6.out HAT6.out⟩
    · obtain rfl : k = n := by omega
      have hfin := in_doneV hXX hrel h0 hn
      rw [List.take_of_length_le (by rw [HL.out]; omega)] at hfin
      obtain ⟨q0, q1, r0, r1⟩ := block2 hf
      have HFIN := Lib.hid hfin
      clear hfin hrel hf hb
      go_wp2
      go_ret
      exact HFIN.out
set_option maxHeartbeats 2000000 in
set_option maxRecDepth 100000 in
/-- Not of several. -/
theorem vin_notseveral {N g c n : Nat} {o : Bool} {L : List Ast} {w : World} (hL : L.length = n) (h0 : 0 < n) (hn : n ≤ 200000) (hN : N ≤ w.heap.size)
    (hk : ∀ W, Below w.heap.size w W → ∀ j (h : j < L.length), ∃ ut up, W.cell? ⟨g, j, none⟩ = some (.iface ut up) ∧ Calls Tryd.prog 6 #[.iface 54 (.agg #[.iface ut up])] W (RVP N W L[j])) :
    Calls Tryd.prog 6 #[.iface 54 (.agg #[.iface 57 (.agg #[.slice (some ⟨g, 0, none⟩) n c, .bool o])])] w (RVP N w (.several (!o) L)) := by
  have hS : Below w.heap.size w ((((w.alloc (.cells #[.iface 57 (.agg #[.slice (some ⟨g, 0, none⟩) n c, .bool o])] 54)).alloc (.cells #[.slice (some ⟨g, 0, none⟩) n c, .bool o] 57)).alloc (sevObj (.slice none 0 0) (!o)))) ∧ ((((w.alloc (.cells #[.iface 57 (.agg #[.slice (some ⟨g, 0, none⟩) n c, .bool o])] 54)).alloc (.cells #[.slice (some ⟨g, 0, none⟩) n c, .bool o] 57)).alloc (sevObj (.slice none 0 0) (!o)))).heap[w.heap.size + 1 + 1]? = some (sevObj (.slice none 0 0) (!o)) := ⟨(((Below.refl _ _).alloc (Nat.le_refl _) _).alloc (by simp) _).alloc (by simp; omega) _, by rw [show w.heap.size + 1 + 1 = ((w.alloc (.cells #[.iface 57 (.agg #[.slice (some ⟨g, 0, none⟩) n c, .bool o])] 54)).alloc (.cells #[.slice (some ⟨g, 0, none⟩) n c, .bool o] 57)).heap.size by simp]; exact heap_alloc_new _ _⟩
  have hXX : w.heap.size ≤ w.heap.size + 1 + 1 := by omega
  have HK := Lib.hid hk; have HL := Lib.hid hL; have HS := Lib.hid hS
  clear hk hL hS
  have ha0 := ta_not_always
  have ha1 := ta_not_test
  have ha2 := ta_not_not
  have ha3 := ta_not_several
  have ha4 := ta_several_always
  have ha5 := ta_several_test
  have ha6 := ta_several_not
  have ha7 := ta_several_several
  go_enter Tryd.func6, Tryd.ntmps6
  go_wp2_with fail
  refine wp_forget (fun W => Below w.heap.size w W ∧ W.heap[w.heap.size + 1 + 1]? = some (sevObj (.slice none 0 0) (!o))) HS.out ?_
  clear HS
  rintro wS hS
  obtain ⟨X, hXe⟩ : ∃ X, X = w.heap.size + 1 + 1 := ⟨_, rfl⟩
  rw [← hXe] at hS hXX ⊢
  have HS := Lib.hid hS
  clear hS hXe
  go_loopg [8, 35] n (fun gk xv iv W => ∃ (k : Nat) (kv : Value) (vs : List Value), k + gk = n ∧ iv = .int .i64 k ∧ InRelV N w W X k (!o) kv vs (L.take k))
  case atStart => exact ⟨0, .slice none 0 0, [], by omega, rfl, HS.out.1, HS.out.2, World.ownsRow_nil _ _ _ _, rfl, trivial⟩
  case round =>
    obtain ⟨k, kv, vs, hkg, rfl, hrel⟩ := hrel
    have hb := hrel.1
    have hf := hrel.2.1
    have hFl : X < wr.heap.size := (Array.getElem?_eq_some_iff.1 hf).1
    by_cases hlt : k < n
    · obtain ⟨m, rfl⟩ : ∃ m, gk = m + 1 := ⟨gk - 1, by omega⟩
      have hkL : k < L.length := by rw [HL.out]; exact hlt
      obtain ⟨ut, up, hc, _⟩ := HK.out wr hb k hkL
      have hbd : Below w.heap.size w wr.drew := hb.trans ⟨rfl, rfl, rfl, Nat.le_refl _, fun _ _ => rfl⟩
      obtain ⟨ut', up', hc', hcall⟩ := HK.out wr.drew hbd k hkL
      obtain ⟨rfl, rfl⟩ : ut' = ut ∧ up' = up := by
        have h7 := Option.some.inj ((show wr.cell? ⟨g, k, none⟩ = some (.iface ut' up') from hc').symm.trans hc)
        injection h7 with h7 h8; exact ⟨h7, h8⟩
      obtain ⟨q0, q1, r0, r1⟩ := block2 hf
      have HR := Lib.hid hrel; have HF := Lib.hid hf; have HB := Lib.hid hb; have HC := Lib.hid hcall
      have htk : L.take (k + 1) = L.take k ++ [L[k]] := List.take_succ_eq_append_getElem hkL
      have HTK := Lib.hid htk
      clear hrel hf hb hcall hc' hbd htk
      go_wp2_with fail
      refine wp_region_late (fun W => W.cell? ⟨X, 0, none⟩ = some kv) [7] rfl (by simpa using q0) (fun hHeld => ?_)
      refine wpAnyT_takePD (i := 0) (d := 39) (oi := _) (v := ?zv5) rfl rfl (by kernel_rfl) (fun _ _ _ h => h) (Or.inl ⟨by rfl, ?zy5⟩) (by assumption) ?zr5
      case zy5 => (intro w hSw; (try dsimp only at hSw); go_split_ands; go_simp; (try rw [if_pos (by omega)]); (try go_simp); try with_reducible rfl)
      simp only [List.setIfInBounds_toArray, List.set_cons_zero, List.set_cons_succ]
      refine wpAnyT_takeD (i := 1) (d := 40) (oi := _) (v := ?zv6) rfl rfl (by kernel_rfl) (fun _ _ _ h => h) (Or.inl ⟨by rfl, ?zy6⟩) (by assumption) ?zr6
      case zy6 => (intro w hSw; (try dsimp only at hSw); go_split_ands; go_simp; (try rw [if_pos (by omega)]); (try go_simp); try with_reducible rfl)
      simp only [List.setIfInBounds_toArray, List.set_cons_zero, List.set_cons_succ]
      refine wpAnyT_takePD (i := 2) (d := 41) (oi := _) (v := ?zv7) rfl rfl (by kernel_rfl) (fun _ _ _ h => h) (Or.inl ⟨by rfl, ?zy7⟩) (by assumption) ?zr7
      case zy7 => (intro w hSw; (try dsimp only at hSw); go_split_ands; go_simp; (try rw [if_pos (by omega)]); (try go_simp); try with_reducible rfl)
      simp only [List.setIfInBounds_toArray, List.set_cons_zero, List.set_cons_succ]
      refine wpAnyT_takePD (i := 3) (d := 42) (oi := _) (v := ?zv8) rfl rfl (by kernel_rfl) (fun _ _ _ h => h) (Or.inl ⟨by rfl, ?zy8⟩) (by assumption) ?zr8
      case zy8 => (intro w hSw; (try dsimp only at hSw); go_split_ands; go_simp; (try rw [if_pos (by omega)]); (try go_simp); try with_reducible rfl)
      simp only [List.setIfInBounds_toArray, List.set_cons_zero, List.set_cons_succ]
      refine wpAnyT_takePD (i := 4) (d := 43) (oi := _) (v := ?zv9) rfl rfl (by kernel_rfl) (fun _ _ _ h => h) (Or.inl ⟨by rfl, ?zy9⟩) (by assumption) ?zr9
      case zy9 => (intro w hSw; (try dsimp only at hSw); go_split_ands; go_simp; (try rw [if_pos (by omega)]); (try go_simp); try with_reducible rfl)
      simp only [List.setIfInBounds_toArray, List.set_cons_zero, List.set_cons_succ]
      refine wpAnyT_ready (rs := [5]) (by kernel_rfl) (by simp) (AllReadyT.cons rfl (fun K2 hK2 => ?_) AllReadyT.nil)
      go_simp
      refine Calls.mono HC.out ?_
      rintro r w5 ⟨v5, rfl, hb5, hA⟩
      obtain ⟨ft, fp, rfl⟩ := hA.iface
      have hb6 : Below wr.heap.size wr w5 := ⟨hb5.os, hb5.tape, hb5.output, hb5.size, hb5.block⟩
      have hf5 := (hb6.block _ hFl).trans HF.out
      obtain ⟨b0, b1, c0, c1⟩ := block2 hf5
      have HB5 := Lib.hid hb6; have HA := Lib.hid hA; have HF5 := Lib.hid hf5
      clear hb5 hb6 hA hf5
      refine hK2.out _ _ b0 (fun _ => ?_)
      refine wpAnyT_ready (rs := [6]) (by kernel_rfl) (by simp) (AllReadyT.cons rfl (fun K3 hK3 => ?_) AllReadyT.nil)
      go_simp
      refine hK3.out _ _ ?_ (fun _ => ?_)
      · exact (World.cell?_alloc_some _ _ _ (by rw [b0]; rfl)).trans b0
      refine wpAnyT_tail 7 (by simp) rfl (by simp) (by kernel_rfl) ?_
      simp only [List.drop_succ_cons, List.drop_zero]
      have hkvb : ∀ b, kv.ownBlock = some b → X + 1 ≤ b ∧ b < wr.heap.size := fun b hb => HR.out.2.2.1.lt b hb
      have hown : w5.ownsRow (X + 1) tIf 1 kv k vs := HR.out.2.2.1.kept (row := none) ⟨HB5.out.os, HB5.out.tape, HB5.out.output, HB5.out.size, fun j hj _ => HB5.out.block j hj⟩ (by cases kv.ownBlock <;> simp)
      have hsz5 : X + 1 ≤ w5.heap.size := by have := HB5.out.size; omega
      have hcl : Hid True := Lib.hid trivial
      have HKV := Lib.hid hkvb
      clear hkvb
      go_wp2_with (at_builtin; refine wpList_append_fresh rfl _ _ 55 rfl (X + 1) 29 .nilIface 1 16 Tryd.underlying55 infoIf rfl (by decide) kv _ _ rfl w5 hown 1 [.iface ft fp] 0 rfl rfl rfl (by simp [Value.oneCell']) (by decide) (by omega) (by omega) hsz5 ?_; intro g1 cp1 w6 ho6 hgr6 hat6 hlt6; have hf6 := (hgr6.block X (by omega) (fun e => by have := (HKV.out _ e.symm).1; omega)).trans HF5.out; obtain ⟨d0, d1, i0, i1⟩ := block2 hf6; have HO6 := Lib.hid ho6; have HGR6 := Lib.hid hgr6; have HAT6 := Lib.hid hat6; clear hf6 ho6 hgr6 hat6)
      go_roundg m
      case measure => omega
      case rel => exact ⟨k + 1, _, _, by omega, by go_num, by rw [HTK.out]; exact in_roundV hN hXX HR.out HB5.out HA.out HO6.out HGR6.out HAT6.out⟩
    · obtain rfl : k = n := by omega
      have hfin := in_doneV hXX hrel h0 hn
      rw [List.take_of_length_le (by rw [HL.out]; omega)] at hfin
      obtain ⟨q0, q1, r0, r1⟩ := block2 hf
      have HFIN := Lib.hid hfin
      clear hfin hrel hf hb
      go_wp2
      go_ret
      exact HFIN.out
end Go.Proofs.YtfjfbiocjloilaaDoor
