/-
  What is proved here: which packets the program's filters mean (11.1).
-/
import Derived.Test.YtkijaminnalfgaaDoorFiltV5
namespace Go.Proofs.YtkijaminnalfgaaDoor
open Go.RowKit Go.Sort

/-- A packet. -/
def xv (a : Nat → Int) : Value := .agg #[.int .i64 (a 0), .int .i64 (a 1), .int .i64 (a 2), .int .i64 (a 3), .int .i64 (a 4)]
abbrev xObj (a : Nat → Int) : Obj := .cells #[.int .i64 (a 0), .int .i64 (a 1), .int .i64 (a 2), .int .i64 (a 3), .int .i64 (a 4)] 23 (0, 0)
/-- A packet's numbers are such. -/
def Its (a : Nat → Int) : Prop := ∀ i, -9223372036854775808 ≤ a i ∧ a i ≤ 9223372036854775807
set_option maxRecDepth 100000 in
theorem value_any {a : Nat → Int} {i : Nat} (hi : i < 5) (w : World) :
    Calls Tryd.prog 90 #[.agg #[.int .i64 (a 0), .int .i64 (a 1), .int .i64 (a 2), .int .i64 (a 3), .int .i64 (a 4)], .int .i64 i] w fun e w' => e = .returned (.int .i64 (a i)) ∧ Below w.heap.size w w' := by
  have hix : ∀ W : World, (Instr.index 142 (.agg #[.int .i64 (a 0), .int .i64 (a 1), .int .i64 (a 2), .int .i64 (a 3), .int .i64 (a 4)]) (.int .i64 i)).run Tryd.prog W = .ok (.int .i64 (a i)) W := fun W => by
    obtain rfl | rfl | rfl | rfl | rfl : i = 0 ∨ i = 1 ∨ i = 2 ∨ i = 3 ∨ i = 4 := by omega
    all_goals kernel_rfl
  go_enter Tryd.func90, Tryd.ntmps90
  go_wp2
  go_ret
  exact ⟨rfl, (Below.refl _ _).alloc (Nat.le_refl _) _⟩
set_option maxRecDepth 100000 in
theorem test_plain {a : Nat → Int} {i : Nat} (hi : i < 5) (lo hi' : Int) (w : World) :
    Calls Tryd.prog 88 #[.agg #[.int .i64 i, .int .i64 lo, .int .i64 hi', .bool false], xv a] w fun e w' => e = .returned (.bool (decide (lo ≤ a i) && decide (a i ≤ hi'))) ∧ Below w.heap.size w w' := by
  unfold xv
  by_cases h1 : lo ≤ a i
  · by_cases h2 : a i ≤ hi'
    · go_enter Tryd.func88, Tryd.ntmps88
      go_wp2_with (go_at_call 90; refine (value_any hi _).mono ?_; rintro r w2 ⟨rfl, hb2⟩; have hc : w2.heap[w.heap.size]? = some (testObj i lo hi' false) := (hb2.block w.heap.size (by simp; omega)).trans (alloc2_both w _ _ 0).1; obtain ⟨y0, y1, y2, y3, z0, z1, z2, z3⟩ := block4 hc; clear hc)
      go_ret
      exact ⟨ret_bool (by simp; omega), (((Below.refl _ _).alloc (Nat.le_refl _) _).alloc (by simp) _).trans (hb2.mono (by simp; omega))⟩
    · go_enter Tryd.func88, Tryd.ntmps88
      go_wp2_with (go_at_call 90; refine (value_any hi _).mono ?_; rintro r w2 ⟨rfl, hb2⟩; have hc : w2.heap[w.heap.size]? = some (testObj i lo hi' false) := (hb2.block w.heap.size (by simp; omega)).trans (alloc2_both w _ _ 0).1; obtain ⟨y0, y1, y2, y3, z0, z1, z2, z3⟩ := block4 hc; clear hc)
      go_ret
      exact ⟨ret_bool (by simp; omega), (((Below.refl _ _).alloc (Nat.le_refl _) _).alloc (by simp) _).trans (hb2.mono (by simp; omega))⟩
  · go_enter Tryd.func88, Tryd.ntmps88
    go_wp2_with (go_at_call 90; refine (value_any hi _).mono ?_; rintro r w2 ⟨rfl, hb2⟩; have hc : w2.heap[w.heap.size]? = some (testObj i lo hi' false) := (hb2.block w.heap.size (by simp; omega)).trans (alloc2_both w _ _ 0).1; obtain ⟨y0, y1, y2, y3, z0, z1, z2, z3⟩ := block4 hc; clear hc)
    go_ret
    exact ⟨ret_bool (by simp; omega), (((Below.refl _ _).alloc (Nat.le_refl _) _).alloc (by simp) _).trans (hb2.mono (by simp; omega))⟩
/-! ### bits -/
def band (v n : Int) : Bool := bits .and .i64 v n == n
theorem bits_and_small {v n : Int} (h0 : 0 ≤ n) (h9 : n ≤ 2000000000) : bits .and .i64 v n = (((BitVec.ofInt 64 v).toNat &&& n.toNat : Nat) : Int) := by
  have h1 : (BitVec.ofInt 64 n).toNat = n.toNat := by
    obtain ⟨m, rfl⟩ := Int.eq_ofNat_of_zero_le h0
    rw [BitVec.ofInt_natCast, BitVec.toNat_ofNat, Int.toNat_natCast]
    exact Nat.mod_eq_of_lt (by omega)
  have hle : (BitVec.ofInt 64 v).toNat &&& n.toNat ≤ n.toNat := Nat.and_le_right
  show IntKind.i64.wrap ((BitVec.ofInt 64 v &&& BitVec.ofInt 64 n).toNat : Int) = _
  rw [BitVec.toNat_and, h1]
  exact IntWalk.i64_in _ (by omega)
theorem band_iff {v n : Int} (h0 : 0 ≤ n) (h9 : n ≤ 2000000000) : band v n = true ↔ ∀ k, n.toNat.testBit k = true → (BitVec.ofInt 64 v).toNat.testBit k = true := by
  unfold band
  rw [bits_and_small h0 h9, beq_iff_eq]
  constructor
  · intro h k hk
    have h1 : (BitVec.ofInt 64 v).toNat &&& n.toNat = n.toNat := by omega
    have h2 := congrArg (Nat.testBit · k) h1
    simp only [Nat.testBit_and, hk, Bool.and_true] at h2
    exact h2
  · intro h
    have h1 : (BitVec.ofInt 64 v).toNat &&& n.toNat = n.toNat := by
      apply Nat.eq_of_testBit_eq
      intro k
      rw [Nat.testBit_and]
      by_cases hk : n.toNat.testBit k = true
      · rw [hk, h k hk]; rfl
      · have : n.toNat.testBit k = false := by simpa using hk
        rw [this, Bool.and_false]
    omega
set_option maxRecDepth 100000 in
theorem test_bits {a : Nat → Int} {i : Nat} (hi : i < 5) (lo hi' : Int) (w : World) :
    Calls Tryd.prog 88 #[.agg #[.int .i64 i, .int .i64 lo, .int .i64 hi', .bool true], xv a] w fun e w' => e = .returned (.bool (band (a i) lo)) ∧ Below w.heap.size w w' := by
  unfold xv
  go_enter Tryd.func88, Tryd.ntmps88
  go_wp2_with (go_at_call 90; refine (value_any hi _).mono ?_; rintro r w2 ⟨rfl, hb2⟩; have hc : w2.heap[w.heap.size]? = some (testObj i lo hi' true) := (hb2.block w.heap.size (by simp; omega)).trans (alloc2_both w _ _ 0).1; obtain ⟨y0, y1, y2, y3, z0, z1, z2, z3⟩ := block4 hc; clear hc)
  go_ret
  exact ⟨rfl, (((Below.refl _ _).alloc (Nat.le_refl _) _).alloc (by simp) _).trans (hb2.mono (by simp; omega))⟩
/-! ### by kinds -/
/-- What stands behind an interface, and that its Meant answers b of the packet a. -/
def Inv (a : Nat → Int) (W : World) (v : Value) (b : Bool) : Prop :=
  ∃ t p fn, v = .iface t p ∧ (∀ w, (Go.method 249 t p "Meant").run Tryd.prog w = .ok (fn, p) w) ∧ (∀ args w, (callFunc fn args).run Tryd.prog w = .ok (.enter fn args) w) ∧ ∀ W', Below W.heap.size W W' → Calls Tryd.prog fn #[p, xv a] W' fun e w'' => e = .returned (.bool b) ∧ Below W'.heap.size W' w''
theorem Inv.below {a : Nat → Int} {W W' : World} {v : Value} {b : Bool} (h : Inv a W v b) (hb : Below W.heap.size W W') : Inv a W' v b := by
  obtain ⟨t, p, fn, h1, h2, h4, h3⟩ := h
  exact ⟨t, p, fn, h1, h2, h4, fun W2 hb2 => h3 W2 (hb.trans (hb2.mono hb.size))⟩
set_option maxRecDepth 100000 in
theorem always_any {a : Nat → Int} (w : World) : Calls Tryd.prog 81 #[.agg #[], xv a] w fun e w' => e = .returned (.bool true) ∧ Below w.heap.size w w' := by
  unfold xv
  go_enter Tryd.func81, Tryd.ntmps81
  go_wp2
  go_ret
  exact ⟨rfl, ((Below.refl _ _).alloc (Nat.le_refl _) _).alloc (by simp) _⟩
set_option maxRecDepth 100000 in
theorem not_any {a : Nat → Int} {v : Value} {b : Bool} {W : World} (h : Inv a W v b) (w : World) (hw : Below W.heap.size W w) :
    Calls Tryd.prog 83 #[.agg #[v], xv a] w fun e w' => e = .returned (.bool (!b)) ∧ Below w.heap.size w w' := by
  obtain ⟨t, p, fn, rfl, hm, he, hc⟩ := h
  have hcall : ∀ W', Below w.heap.size w W' → Calls Tryd.prog fn #[p, xv a] W' fun e w'' => e = .returned (.bool b) ∧ Below W'.heap.size W' w'' := fun W' hb => hc W' (hw.trans (hb.mono hw.size))
  have HC := Lib.hid hcall
  clear hc hcall
  unfold xv
  go_enter Tryd.func83, Tryd.ntmps83
  go_wp2_with fail
  refine Calls.mono (HC.out _ (((Below.refl _ _).alloc (Nat.le_refl _) _).alloc (by simp) _)) ?_
  rintro r w2 ⟨rfl, hb2⟩
  go_wp2
  go_ret
  exact ⟨rfl, (((Below.refl _ _).alloc (Nat.le_refl _) _).alloc (by simp) _).trans (hb2.mono (by simp; omega))⟩
/-- The first that is as asked. -/
def AnyIs (n : Nat) (B : Nat → Bool) (o r : Bool) : Prop := (∀ j, j < n → B j = o → r = o) ∧ ((∀ j, j < n → B j = !o) → r = !o)
theorem block2s {W : World} {b : Nat} {x y : Value} {t : TypeId} (h : W.heap[b]? = some (.cells #[x, y] t (0, 0))) : W.cell? ⟨b, 0, none⟩ = some x ∧ W.cell? ⟨b, 1, none⟩ = some y := ⟨(block2 h).1, (block2 h).2.1⟩
theorem xcells {W : World} {b : Nat} {a : Nat → Int} (h : W.heap[b]? = some (xObj a)) :
    W.cell? ⟨b, 0, none⟩ = some (.int .i64 (a 0)) ∧ W.cell? ⟨b, 1, none⟩ = some (.int .i64 (a 1)) ∧ W.cell? ⟨b, 2, none⟩ = some (.int .i64 (a 2)) ∧ W.cell? ⟨b, 3, none⟩ = some (.int .i64 (a 3)) ∧ W.cell? ⟨b, 4, none⟩ = some (.int .i64 (a 4)) := by
  refine ⟨?_, ?_, ?_, ?_, ?_⟩ <;> simp [World.cell?, h]
set_option maxHeartbeats 2000000 in
set_option maxRecDepth 100000 in
theorem several_any {a : Nat → Int} {g n c : Nat} {o : Bool} {B : Nat → Bool} {W : World} (hk : ∀ j, j < n → ∃ u, W.cell? ⟨g, j, none⟩ = some u ∧ Inv a W u (B j)) (hn : n ≤ 9223372036854775807) (w : World) (hw : Below W.heap.size W w) :
    Calls Tryd.prog 86 #[.agg #[.slice (some ⟨g, 0, none⟩) n c, .bool o], xv a] w fun e w' => (∃ r, e = .returned (.bool r) ∧ AnyIs n B o r) ∧ Below w.heap.size w w' := by
  have hk2 : ∀ j, j < n → ∃ u, w.cell? ⟨g, j, none⟩ = some u ∧ Inv a w u (B j) := fun j hj => by
    obtain ⟨u, h1, h2⟩ := hk j hj
    exact ⟨u, below_cell hw h1 (World.block_lt_of_cell? W _ h1), h2.below hw⟩
  have HK := Lib.hid hk2
  clear hk hk2 hw
  unfold xv
  go_enter Tryd.func86, Tryd.ntmps86
  go_wp2_with fail
  go_loopg [10] n (fun gk kv W => Below w.heap.size w W ∧ W.heap[w.heap.size]? = some (sevObj (.slice (some ⟨g, 0, none⟩) n c) o) ∧ W.heap[w.heap.size + 1]? = some (xObj a) ∧ ∃ k : Nat, kv = .int .i64 k ∧ k + gk = n ∧ ∀ j, j < k → B j = !o)
  case atStart =>
    exact ⟨((Below.refl _ _).alloc (Nat.le_refl _) _).alloc (by simp) _, (alloc2_both w _ _ 0).1, (alloc2_both w _ _ 0).2, 0, rfl, by omega, fun j h => by omega⟩
  case round =>
    obtain ⟨hb, hF, hX, k, rfl, hkg, hno⟩ := hrel
    obtain ⟨s0, s1⟩ := block2s hF
    obtain ⟨x0, x1, x2, x3, x4⟩ := xcells hX
    have hFl : w.heap.size + 1 < wr.heap.size := (Array.getElem?_eq_some_iff.1 hX).1
    have HB := Lib.hid hb; have HF := Lib.hid hF; have HX := Lib.hid hX; have HNO := Lib.hid hno
    clear hF hX hno hb
    by_cases hlt : k < n
    · obtain ⟨m, rfl⟩ : ∃ m, gk = m + 1 := ⟨gk - 1, by omega⟩
      obtain ⟨u, hu, hi⟩ := HK.out k hlt
      obtain ⟨t, p, fn, rfl, hm, he, hc⟩ := hi.below HB.out
      have hu2 : wr.cell? ⟨g, 0 + k, none⟩ = some (.iface t p) := by rw [Nat.zero_add]; exact below_cell HB.out hu (World.block_lt_of_cell? w _ hu)
      rw [Nat.zero_add] at hu2
      have HC := Lib.hid hc
      clear hc hu hi
      go_wp2_with fail
      refine wp_region_late (fun W => (W.cell? ⟨w.heap.size, 0, none⟩ = some (.slice (some ⟨g, 0, none⟩) n c) ∧ W.cell? ⟨w.heap.size, 1, none⟩ = some (.bool o)) ∧ W.cell? ⟨w.heap.size + 1, 0, none⟩ = some (.int .i64 (a 0)) ∧ W.cell? ⟨w.heap.size + 1, 1, none⟩ = some (.int .i64 (a 1)) ∧ W.cell? ⟨w.heap.size + 1, 2, none⟩ = some (.int .i64 (a 2)) ∧ W.cell? ⟨w.heap.size + 1, 3, none⟩ = some (.int .i64 (a 3)) ∧ W.cell? ⟨w.heap.size + 1, 4, none⟩ = some (.int .i64 (a 4))) [5] rfl ⟨⟨s0, s1⟩, x0, x1, x2, x3, x4⟩ (fun hHeld => ?_)
      refine wpAnyT_takePD (i := 0) (d := 14) (oi := _) (v := ?zv1) rfl rfl (by kernel_rfl) (fun _ _ _ h => h) (Or.inl ⟨by rfl, ?zy1⟩) (by assumption) ?zr1
      case zy1 => (intro w hSw; (try dsimp only at hSw); go_split_ands; go_simp; (try rw [if_pos (by omega)]); (try go_simp); try with_reducible rfl)
      simp only [List.setIfInBounds_toArray, List.set_cons_zero, List.set_cons_succ]
      refine wpAnyT_takeD (i := 1) (d := 15) (oi := _) (v := ?zv2) rfl rfl (by kernel_rfl) (fun _ _ _ h => h) (Or.inl ⟨by rfl, ?zy2⟩) (by assumption) ?zr2
      case zy2 => (intro w hSw; (try dsimp only at hSw); go_split_ands; go_simp; (try rw [if_pos (by omega)]); (try go_simp); try with_reducible rfl)
      simp only [List.setIfInBounds_toArray, List.set_cons_zero, List.set_cons_succ]
      refine wpAnyT_takePD (i := 3) (d := 17) (oi := _) (v := ?zv3) rfl rfl (by kernel_rfl) (fun _ _ _ h => h) (Or.inl ⟨by rfl, ?zy3⟩) (by assumption) ?zr3
      case zy3 => (intro w hSw; (try dsimp only at hSw); go_split_ands; go_simp; (try rw [if_pos (by omega)]); (try go_simp); try with_reducible rfl)
      simp only [List.setIfInBounds_toArray, List.set_cons_zero, List.set_cons_succ]
      refine wpAnyT_takeD (i := 4) (d := 18) (oi := _) (v := ?zv4) rfl rfl (by kernel_rfl) (fun _ _ _ h => h) (Or.inl ⟨by rfl, ?zy4⟩) (by assumption) ?zr4
      case zy4 => (intro w hSw; (try dsimp only at hSw); go_split_ands; go_simp; (try rw [if_pos (by omega)]); (try go_simp); try with_reducible rfl)
      simp only [List.setIfInBounds_toArray, List.set_cons_zero, List.set_cons_succ]
      refine wpAnyT_ready (rs := [2]) (by kernel_rfl) (by simp) (AllReadyT.cons rfl (fun K2 hK2 => ?_) AllReadyT.nil)
      go_simp
      refine Calls.mono (HC.out _ (⟨rfl, rfl, rfl, Nat.le_refl _, fun _ _ => rfl⟩ : Below wr.heap.size wr wr.drew)) ?_
      rintro r w2 ⟨rfl, hb2⟩
      have hb3 : Below wr.heap.size wr w2 := ⟨hb2.os, hb2.tape, hb2.output, hb2.size, hb2.block⟩
      have hF2 := (hb3.block _ (by omega)).trans HF.out
      have hX2 := (hb3.block _ hFl).trans HX.out
      obtain ⟨q0, q1⟩ := block2s hF2
      obtain ⟨q2, q3, q4, q5, q6⟩ := xcells hX2
      have HB3 := Lib.hid (HB.out.trans (hb3.mono HB.out.size)); have HF2 := Lib.hid hF2; have HX2 := Lib.hid hX2
      clear hb2 hb3 hF2 hX2 hHeld s0 s1 x0 x1 x2 x3 x4
      refine hK2.out _ _ ⟨⟨q0, q1⟩, q2, q3, q4, q5, q6⟩ (fun _ => ?_)
      refine wpAnyT_tail 5 (by simp) rfl (by simp) (by kernel_rfl) ?_
      simp only [List.drop_succ_cons, List.drop_zero]
      by_cases hbk : B k = o
      · have hbb : (B k == o) = true := by simpa using hbk
        have HBK := Lib.hid hbk
        clear hbk
        go_wp2_with fail
        go_ret
        exact ⟨⟨o, rfl, fun _ _ _ => rfl, fun h => by have := h k hlt; rw [HBK.out] at this; cases o <;> cases this⟩, HB3.out⟩
      · have hbb : (B k == o) = false := by simpa using hbk
        have HBK := Lib.hid (show B k = !o by cases h1 : B k <;> cases h2 : o <;> simp_all)
        clear hbk
        go_wp2_with fail
        go_roundg m
        case measure => omega
        case rel =>
          refine ⟨HB3.out, HF2.out, HX2.out, k + 1, by go_num, by omega, fun j hj => ?_⟩
          rcases Nat.lt_or_ge j k with h | h
          · exact HNO.out j h
          · obtain rfl : j = k := by omega
            exact HBK.out
    · obtain rfl : k = n := by omega
      go_wp2_with fail
      go_ret
      exact ⟨⟨!o, rfl, (fun j hj h => by rw [HNO.out j hj] at h; cases o <;> cases h), (fun _ => rfl)⟩, HB.out⟩

/-! ### all kinds -/
theorem anyIs_or {n : Nat} {B : Nat → Bool} {r : Bool} (h : AnyIs n B true r) : r = (List.range n).any B := by
  by_cases hx : ∃ j, j < n ∧ B j = true
  · obtain ⟨j, h1, h2⟩ := hx
    rw [h.1 j h1 h2]
    symm; rw [List.any_eq_true]
    exact ⟨j, List.mem_range.2 h1, h2⟩
  · have : ∀ j, j < n → B j = !true := fun j hj => by
      by_cases hb : B j = true
      · exact absurd ⟨j, hj, hb⟩ hx
      · simpa using hb
    rw [h.2 this]
    symm
    rw [Bool.not_true, List.any_eq_false]
    intro j hj
    have := this j (List.mem_range.1 hj)
    simpa using this
theorem anyIs_and {n : Nat} {B : Nat → Bool} {r : Bool} (h : AnyIs n B false r) : r = (List.range n).all B := by
  by_cases hx : ∃ j, j < n ∧ B j = false
  · obtain ⟨j, h1, h2⟩ := hx
    rw [h.1 j h1 h2]
    symm; rw [List.all_eq_false]
    exact ⟨j, List.mem_range.2 h1, by simp [h2]⟩
  · have : ∀ j, j < n → B j = !false := fun j hj => by
      by_cases hb : B j = false
      · exact absurd ⟨j, hj, hb⟩ hx
      · simpa using hb
    rw [h.2 this]
    symm
    rw [Bool.not_false, List.all_eq_true]
    intro j hj
    exact this j (List.mem_range.1 hj)
def mAt (v : Nat → Int) (bd : Int → Int → Bool) (l : List Ast) (j : Nat) : Bool := match l[j]? with
  | some a => meant v bd a
  | none => false
theorem meantAny_range (v : Nat → Int) (bd : Int → Int → Bool) : ∀ l : List Ast, meantAny v bd l = (List.range l.length).any (mAt v bd l)
  | [] => by unfold meantAny; rfl
  | a :: l => by
    unfold meantAny
    rw [meantAny_range v bd l, List.length_cons, List.range_succ_eq_map, List.any_cons, List.any_map]
    rfl
theorem meantAll_range (v : Nat → Int) (bd : Int → Int → Bool) : ∀ l : List Ast, meantAll v bd l = (List.range l.length).all (mAt v bd l)
  | [] => by unfold meantAll; rfl
  | a :: l => by
    unfold meantAll
    rw [meantAll_range v bd l, List.length_cons, List.range_succ_eq_map, List.all_cons, List.all_map]
    rfl
theorem several_meant {v : Nat → Int} {bd : Int → Int → Bool} {o r : Bool} {l : List Ast} (h : AnyIs l.length (mAt v bd l) o r) : r = meant v bd (.several o l) := by
  unfold meant
  cases o with
  | true => rw [if_pos rfl, meantAny_range]; exact anyIs_or h
  | false => rw [if_neg (by simp), meantAll_range]; exact anyIs_and h
mutual
/-- Meant of the program's filters is the document's. -/
theorem vmeant {a : Nat → Int} {S : Nat → Prop} {W : World} : ∀ {A : Ast} {v : Value}, VAst S W v A → Inv a W v (meant a band A)
  | .any, v, h => by
    unfold VAst at h
    subst h
    unfold meant
    exact ⟨_, _, 81, rfl, fun w => by kernel_rfl, Tryd.call81, fun w _ => always_any w⟩
  | .test f lo hi, v, h => by
    unfold VAst at h
    obtain ⟨rfl, h1, _, _⟩ := h
    unfold meant
    exact ⟨_, _, 88, rfl, fun w => by kernel_rfl, Tryd.call88, fun w _ => test_plain h1 lo hi w⟩
  | .has f lo, v, h => by
    unfold VAst at h
    obtain ⟨rfl, h1, _⟩ := h
    unfold meant
    exact ⟨_, _, 88, rfl, fun w => by kernel_rfl, Tryd.call88, fun w _ => test_bits h1 lo lo w⟩
  | .not A, v, h => by
    unfold VAst at h
    obtain ⟨u, rfl, h1⟩ := h
    have hu := vmeant (a := a) h1
    unfold meant
    exact ⟨_, _, 83, rfl, fun w => by kernel_rfl, Tryd.call83, fun w hw => not_any hu w hw⟩
  | .several o l, v, h => by
    unfold VAst at h
    obtain ⟨h0, g, c, rfl, _, hk⟩ := h
    have hks := vmeants (a := a) hk
    refine ⟨_, _, 86, rfl, fun w => by kernel_rfl, Tryd.call86, fun w hw => ?_⟩
    have hks' : ∀ j, j < l.length → ∃ u, W.cell? ⟨g, j, none⟩ = some u ∧ Inv a W u (mAt a band l j) := fun j hj => by have := hks j hj; rwa [Nat.zero_add] at this
    exact (several_any hks' (by have := h0.2; omega) w hw).mono fun e w' ⟨⟨r, h1, h2⟩, h3⟩ => ⟨by rw [h1, several_meant h2], h3⟩
theorem vmeants {a : Nat → Int} {S : Nat → Prop} {W : World} : ∀ {l : List Ast} {g i : Nat}, VKids S W g i l → ∀ j, j < l.length → ∃ u, W.cell? ⟨g, i + j, none⟩ = some u ∧ Inv a W u (mAt a band l j)
  | [], _, _, _, j, hj => by simp at hj
  | A :: l, g, i, h, j, hj => by
    unfold VKids at h
    obtain ⟨⟨u, h1, h2⟩, h3⟩ := h
    cases j with
    | zero => exact ⟨u, h1, vmeant h2⟩
    | succ j =>
      obtain ⟨u', h4, h5⟩ := vmeants (a := a) h3 j (by simpa using hj)
      exact ⟨u', by rw [show i + (j + 1) = i + 1 + j by omega]; exact h4, h5⟩
end
end Go.Proofs.YtkijaminnalfgaaDoor
