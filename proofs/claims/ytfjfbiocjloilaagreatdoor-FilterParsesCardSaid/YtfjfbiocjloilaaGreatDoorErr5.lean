/-
  What is proved here: api.Tell and plain.Place take an error apart: its Errno and its place; for nil, a bare Errno and an *At.
-/
import Derived.Test.YtfjfbiocjloilaaGreatDoorErr2
import Derived.Test.YtfjfbiocjloilaaGreatDoorBase
import Derived.BigQuiet
import Derived.Deep.QuietTactic
import Derived.WalkSmall
namespace Go.Proofs.YtfjfbiocjloilaaGreatDoor
open Go.RowKit Go.Extern.Stop Go.Stop Go.Extern

/-- The error value v is: nil (e = 0), a bare Errno, or an *At with a place. -/
inductive ErrV (w : World) : Value → Int → Int → Prop
  | nil : ErrV w .nilIface 0 (-1)
  | bare (e : Int) : ErrV w (.iface 23 (.int .i64 e)) e (-1)
  | «at» (b : Nat) (e pl : Int) (h0 : w.cell? ⟨b, 0, none⟩ = some (.int .i64 e)) (h1 : w.cell? ⟨b, 1, none⟩ = some (.int .i64 pl)) : ErrV w (.iface 69 (.pointer (some ⟨b, 0, none⟩))) e pl

set_option maxHeartbeats 1000000 in
theorem Tell_any (v : Value) (e pl : Int) (w : World) (hv : ErrV w v e pl) (hg : EType w) :
    Calls Tryz.prog 24 #[v] w fun en w' => en = .returned (.int .i64 e) ∧ Below w.heap.size w w' := by
  cases hv with
  | nil =>
    go_enter Tryz.func24, Tryz.ntmps24
    go_wp2
    go_ret
    exact ⟨rfl, Below.refl _ _⟩
  | bare e =>
    have hgA : EType (w.alloc (.cells #[.int .i64 0] 23)) := by
      unfold EType; rw [World.cell?_alloc_lt _ _ ⟨4, 0, none⟩ hg.pos]; exact hg
    go_enter Tryz.func24, Tryz.ntmps24
    go_wp2_with (go_at_call 33; refine (as_hit _ _ (.int .i64 0) _ hgA (by simp) (by simp)).mono ?_; rintro e w' ⟨rfl, rfl⟩)
    go_ret
    exact ⟨rfl, ((((((Below.refl _ _).alloc (Nat.le_refl _) _).alloc (by simp) _).alloc (by simp <;> omega) _).alloc (by simp <;> omega) _).alloc (by simp <;> omega) _)⟩
  | «at» b e pl h0 h1 =>
    have hb := World.block_lt_of_cell? w _ h0
    have hgA : EType (w.alloc (.cells #[.int .i64 0] 23)) := by
      unfold EType; rw [World.cell?_alloc_lt _ _ ⟨4, 0, none⟩ hg.pos]; exact hg
    have hbA : (w.alloc (.cells #[.int .i64 0] 23)).cell? ⟨b, 0, none⟩ = some (.int .i64 e) := by
      rw [World.cell?_alloc_lt _ _ ⟨b, 0, none⟩ hb]; exact h0
    go_enter Tryz.func24, Tryz.ntmps24
    go_wp2_with (go_at_call 33; refine (as_at b e _ (.int .i64 0) _ hgA hbA (by simp) (by simp)).mono ?_; rintro e w' ⟨rfl, rfl⟩)
    go_ret
    exact ⟨rfl, ((((((Below.refl _ _).alloc (Nat.le_refl _) _).alloc (by simp) _).alloc (by simp <;> omega) _).alloc (by simp <;> omega) _).alloc (by simp <;> omega) _)⟩

theorem ErrV.below {w w' : World} {v : Value} {e pl : Int} {B : Nat} (h : ErrV w v e pl) (hb : Below B w w') (hB : w.heap.size ≤ B) : ErrV w' v e pl := by
  cases h with
  | nil => exact .nil
  | bare e => exact .bare e
  | «at» b e pl h0 h1 =>
    have hlt := World.block_lt_of_cell? w _ h0
    have hlt' : b < w.heap.size := hlt
    exact .«at» b e pl ((hb.cell (p := ⟨b, 0, none⟩) (by show b < B; omega)).trans h0) ((hb.cell (p := ⟨b, 1, none⟩) (by show b < B; omega)).trans h1)

theorem e_notAt (v : Value) (xT : TypeId) (w : World) : (Instr.typeAssert (.iface 23 v) xT 69 true).run Tryz.prog w = .ok (.tuple #[.pointer none, .bool false]) w := by kernel_rfl
theorem e_isAt (v : Value) (xT : TypeId) (w : World) : (Instr.typeAssert (.iface 69 v) xT 69 true).run Tryz.prog w = .ok (.tuple #[v, .bool true]) w := by kernel_rfl
set_option maxHeartbeats 1000000 in
set_option maxRecDepth 100000 in
theorem Place_any (v : Value) (e pl : Int) (w : World) (hv : ErrV w v e pl) (hg : EType w) :
    Calls Tryz.prog 14 #[v] w fun en w' => en = .returned (.tuple #[.int .i64 e, .int .i64 pl]) ∧ Below w.heap.size w w' := by
  have tx3 := e_noUnwrap
  have tx4 := e_notAt
  have tx5 := e_isAt
  have hT := Tell_any v e pl w hv hg
  have HT := Lib.hid hT; clear hT
  cases hv with
  | nil =>
    go_enter Tryz.func14, Tryz.ntmps14
    go_wp2_with (go_at_call 24; refine (HT.out).mono ?_; rintro e w1 ⟨rfl, hb⟩)
    refine wp_loop_rounds 1 ?_
    rw [rounds_succ]
    go_wp2
    go_ret2
    exact ⟨rfl, hb⟩
  | bare e =>
    go_enter Tryz.func14, Tryz.ntmps14
    go_wp2_with (go_at_call 24; refine (HT.out).mono ?_; rintro e w1 ⟨rfl, hb⟩)
    refine wp_loop_rounds 1 ?_
    rw [rounds_succ]
    go_wp2
    go_ret2
    exact ⟨rfl, hb⟩
  | «at» b e pl h0 h1 =>
    have hb0 : b < w.heap.size := World.block_lt_of_cell? w _ h0
    go_enter Tryz.func14, Tryz.ntmps14
    go_wp2_with (go_at_call 24; refine (HT.out).mono ?_; rintro e w1 ⟨rfl, hb⟩; have h1' := (hb.cell (p := ⟨b, 1, none⟩) hb0).trans h1)
    refine wp_loop_rounds 1 ?_
    rw [rounds_succ]
    go_wp2
    go_quiet (fail)
    go_wp2
    go_ret2
    exact ⟨rfl, below_drewN hb _⟩

/-- What 'at' answers. -/
def atB (e pl e2 pl2 : Int) : Bool := decide (e = e2) && decide (pl = pl2)
theorem atB_ne {e pl e2 pl2 : Int} (h : ¬ e = e2) : atB e pl e2 pl2 = false := by simp [atB, h]
theorem atB_eq {e pl e2 pl2 : Int} (h : e = e2) : atB e pl e2 pl2 = (pl == pl2) := by simp [atB, h]; rfl



set_option maxHeartbeats 1000000 in
theorem at_any (v : Value) (e pl e2 pl2 : Int) (w : World) (hv : ErrV w v e pl) (hg : EType w) :
    Calls Tryz.prog 6 #[v, .agg #[.int .i64 e2, .int .i64 pl2]] w fun en w' => en = .returned (.bool (atB e pl e2 pl2)) ∧ Below w.heap.size w w' := by
  have hp := Place_any v e pl (w.alloc (.cells #[.int .i64 e2, .int .i64 pl2] 25)) (hv.below ((Below.refl _ _).alloc (Nat.le_refl _) _) (Nat.le_refl _)) (hg.below ((Below.refl _ _).alloc (Nat.le_refl _) _) hg.pos)
  have HP := Lib.hid hp; clear hp hv hg
  by_cases h1 : e = e2
  · have h1' : (e == e2) = true := by simpa using h1
    rw [atB_eq h1]
    have H1 := Lib.hid h1; clear h1
    go_enter Tryz.func6, Tryz.ntmps6
    go_wp2_with (go_at_call 14; refine (HP.out).mono ?_; rintro e w1 ⟨rfl, hb⟩; have q0 := hb.cell (p := ⟨w.heap.size, 0, none⟩) (by simp); have q1 := hb.cell (p := ⟨w.heap.size, 1, none⟩) (by simp); simp at q0 q1)
    go_ret
    exact ⟨rfl, ((Below.refl _ _).alloc (Nat.le_refl _) _).trans (hb.mono (by simp))⟩
  · have h1' : (e == e2) = false := by simpa using h1
    rw [atB_ne h1]
    clear h1
    go_enter Tryz.func6, Tryz.ntmps6
    go_wp2_with (go_at_call 14; refine (HP.out).mono ?_; rintro e w1 ⟨rfl, hb⟩; have q0 := hb.cell (p := ⟨w.heap.size, 0, none⟩) (by simp); have q1 := hb.cell (p := ⟨w.heap.size, 1, none⟩) (by simp); simp at q0 q1)
    go_ret
    exact ⟨rfl, ((Below.refl _ _).alloc (Nat.le_refl _) _).trans (hb.mono (by simp))⟩

set_option maxHeartbeats 1000000 in
theorem Bare_any (e : Int) (w : World) :
    Calls Tryz.prog 8 #[.int .i64 e] w fun en w' => en = .returned (.agg #[.int .i64 e, .int .i64 (-1)]) ∧ Below w.heap.size w w' := by
  go_enter Tryz.func8, Tryz.ntmps8
  go_wp2
  exact bodyPost_ret (v := .agg #[.int .i64 e, .int .i64 (-1)]) (by simp [results, Tryz.results8, go_sem]) rfl ⟨rfl, (Below.refl _ _).alloc (Nat.le_refl _) _⟩

end Go.Proofs.YtfjfbiocjloilaaGreatDoor
