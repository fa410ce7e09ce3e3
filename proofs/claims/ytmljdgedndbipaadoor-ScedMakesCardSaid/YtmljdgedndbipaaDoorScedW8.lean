/-
  What is proved here: Make (10.2), as the program does it, where it does not refuse.
-/
import Derived.Test.YtmljdgedndbipaaDoorScedW2
import Derived.Test.YtmljdgedndbipaaDoorScedW4
import Derived.Deep.DeepCutAuto
namespace Go.Proofs.YtmljdgedndbipaaDoor
open Go.RowKit

theorem infoInts : (Tryd.prog.info? 28).map (fun i => (i.zero, i.size, i.bytes)) = some (some (.slice none 0 0), 1, 24) := by kernel_rfl

/-- The plan and its rows, as they lie in memory. -/
structure RowsOf (W : World) (P Bp Bt Bc Bs n : Nat) (vS : Value) (Vp Vt : Nat → Value) (C S : Nat → Int) : Prop where
  p : W.heap[P]? = some (.cells #[vS, .slice (some ⟨Bp, 0, none⟩) n n, .slice (some ⟨Bt, 0, none⟩) n n] 35 (0, 0))
  bp : W.rowIs Bp 28 n Vp
  bt : W.rowIs Bt 28 n Vt
  bc : W.rowIs Bc 3 n (fun i => .int .i64 (C i))
  bs : W.rowIs Bs 3 n (fun i => .int .i64 (S i))
  nd : (P ≠ Bp ∧ P ≠ Bt ∧ P ≠ Bc ∧ P ≠ Bs) ∧ (Bp ≠ Bt ∧ Bp ≠ Bc ∧ Bp ≠ Bs) ∧ (Bt ≠ Bc ∧ Bt ≠ Bs) ∧ Bc ≠ Bs
namespace RowsOf
variable {W W' : World} {P Bp Bt Bc Bs n : Nat} {vS : Value} {Vp Vt : Nat → Value} {C S : Nat → Int}
theorem kept {row : Option Nat} (h : RowsOf W P Bp Bt Bc Bs n vS Vp Vt C S) (hg : W.grownBy W' row) (hr : ∀ k, row = some k → k ≠ P ∧ k ≠ Bp ∧ k ≠ Bt ∧ k ≠ Bc ∧ k ≠ Bs) : RowsOf W' P Bp Bt Bc Bs n vS Vp Vt C S := by
  have hne : ∀ b, (b = P ∨ b = Bp ∨ b = Bt ∨ b = Bc ∨ b = Bs) → some b ≠ row := fun b hb e => by
    have := hr b e.symm
    rcases hb with h | h | h | h | h <;> simp [h] at this
  exact ⟨heap_kept h.p hg (hne _ (by simp)), rowIs_kept h.bp hg (hne _ (by simp)), rowIs_kept h.bt hg (hne _ (by simp)), rowIs_kept h.bc hg (hne _ (by simp)), rowIs_kept h.bs hg (hne _ (by simp)), h.nd⟩
theorem grown (h : RowsOf W P Bp Bt Bc Bs n vS Vp Vt C S) (hg : W.grownBy W' none) : RowsOf W' P Bp Bt Bc Bs n vS Vp Vt C S := h.kept hg (fun k hk => by cases hk)
theorem lts (h : RowsOf W P Bp Bt Bc Bs n vS Vp Vt C S) : P < W.heap.size ∧ Bp < W.heap.size ∧ Bt < W.heap.size ∧ Bc < W.heap.size ∧ Bs < W.heap.size :=
  ⟨(Array.getElem?_eq_some_iff.1 h.p).1, h.bp.lt, h.bt.lt, h.bc.lt, h.bs.lt⟩
theorem below (h : RowsOf W P Bp Bt Bc Bs n vS Vp Vt C S) (hb : Below W.heap.size W W') : RowsOf W' P Bp Bt Bc Bs n vS Vp Vt C S :=
  h.grown ⟨hb.os, hb.tape, hb.output, hb.size, fun k hk _ => hb.block k hk⟩
theorem setBp (h : RowsOf W P Bp Bt Bc Bs n vS Vp Vt C S) (i : Nat) (v : Value) : RowsOf (W.setCell ⟨Bp, i, none⟩ v) P Bp Bt Bc Bs n vS (upd Vp i v) Vt C S := by
  obtain ⟨⟨a1, a2, a3, a4⟩, ⟨b1, b2, b3⟩, ⟨c1, c2⟩, d1⟩ := h.nd
  exact ⟨by rw [Below.heap_setCell _ _ _ _ a1]; exact h.p, h.bp.set i v, h.bt.setOther (fun e => b1 e.symm) v, h.bc.setOther (fun e => b2 e.symm) v, h.bs.setOther (fun e => b3 e.symm) v, h.nd⟩
theorem setBt (h : RowsOf W P Bp Bt Bc Bs n vS Vp Vt C S) (i : Nat) (v : Value) : RowsOf (W.setCell ⟨Bt, i, none⟩ v) P Bp Bt Bc Bs n vS Vp (upd Vt i v) C S := by
  obtain ⟨⟨a1, a2, a3, a4⟩, ⟨b1, b2, b3⟩, ⟨c1, c2⟩, d1⟩ := h.nd
  exact ⟨by rw [Below.heap_setCell _ _ _ _ a2]; exact h.p, h.bp.setOther b1 v, h.bt.set i v, h.bc.setOther (fun e => c1 e.symm) v, h.bs.setOther (fun e => c2 e.symm) v, h.nd⟩
theorem setBc (h : RowsOf W P Bp Bt Bc Bs n vS Vp Vt C S) (i : Nat) (x : Int) : RowsOf (W.setCell ⟨Bc, i, none⟩ (.int .i64 x)) P Bp Bt Bc Bs n vS Vp Vt (upd C i x) S := by
  obtain ⟨⟨a1, a2, a3, a4⟩, ⟨b1, b2, b3⟩, ⟨c1, c2⟩, d1⟩ := h.nd
  exact ⟨by rw [Below.heap_setCell _ _ _ _ a3]; exact h.p, h.bp.setOther b2 _, h.bt.setOther c1 _, (h.bc.set i _).congr (fun j _ => by unfold upd; split <;> rfl), h.bs.setOther (fun e => d1 e.symm) _, h.nd⟩
theorem setBs (h : RowsOf W P Bp Bt Bc Bs n vS Vp Vt C S) (i : Nat) (x : Int) : RowsOf (W.setCell ⟨Bs, i, none⟩ (.int .i64 x)) P Bp Bt Bc Bs n vS Vp Vt C (upd S i x) := by
  obtain ⟨⟨a1, a2, a3, a4⟩, ⟨b1, b2, b3⟩, ⟨c1, c2⟩, d1⟩ := h.nd
  exact ⟨by rw [Below.heap_setCell _ _ _ _ a4]; exact h.p, h.bp.setOther b3 _, h.bt.setOther c2 _, h.bc.setOther d1 _, (h.bs.set i _).congr (fun j _ => by unfold upd; split <;> rfl), h.nd⟩
theorem setP (h : RowsOf W P Bp Bt Bc Bs n vS Vp Vt C S) (v : Value) : RowsOf (W.setCell ⟨P, 0, none⟩ v) P Bp Bt Bc Bs n v Vp Vt C S := by
  obtain ⟨⟨a1, a2, a3, a4⟩, ⟨b1, b2, b3⟩, ⟨c1, c2⟩, d1⟩ := h.nd
  exact ⟨by simp [World.setCell, Array.getElem?_modify, h.p], h.bp.setOther (fun e => a1 e.symm) _, h.bt.setOther (fun e => a2 e.symm) _, h.bc.setOther (fun e => a3 e.symm) _, h.bs.setOther (fun e => a4 e.symm) _, h.nd⟩
theorem congr {Vp' Vt' : Nat → Value} {C' S' : Nat → Int} (h : RowsOf W P Bp Bt Bc Bs n vS Vp Vt C S) (e1 : ∀ i, i < n → Vp i = Vp' i) (e2 : ∀ i, i < n → Vt i = Vt' i) (e3 : ∀ i, i < n → C i = C' i) (e4 : ∀ i, i < n → S i = S' i) : RowsOf W P Bp Bt Bc Bs n vS Vp' Vt' C' S' :=
  ⟨h.p, h.bp.congr e1, h.bt.congr e2, h.bc.congr (fun i hi => by rw [e3 i hi]), h.bs.congr (fun i hi => by rw [e4 i hi]), h.nd⟩
end RowsOf

/-- What stays while ticks go by: all that lay there but the plan and the three rows. -/
structure Fr (w7 W : World) (P Bt Bc Bs : Nat) : Prop where
  os : W.os = w7.os
  tape : W.tape = w7.tape
  output : W.output = w7.output
  size : w7.heap.size ≤ W.heap.size
  block : ∀ k, k < w7.heap.size → k ≠ P → k ≠ Bt → k ≠ Bc → k ≠ Bs → W.heap[k]? = w7.heap[k]?
theorem Fr.refl (w : World) (P Bt Bc Bs : Nat) : Fr w w P Bt Bc Bs := ⟨rfl, rfl, rfl, Nat.le_refl _, fun _ _ _ _ _ _ => rfl⟩
theorem Fr.trans_grown {w7 W W' : World} {P Bt Bc Bs : Nat} {row : Option Nat} (h : Fr w7 W P Bt Bc Bs) (hg : W.grownBy W' row) (hr : ∀ k, row = some k → k = P ∨ k = Bt ∨ k = Bc ∨ k = Bs ∨ w7.heap.size ≤ k) : Fr w7 W' P Bt Bc Bs :=
  ⟨hg.os.trans h.os, hg.tape.trans h.tape, hg.output.trans h.output, Nat.le_trans h.size hg.size, fun k hk h1 h2 h3 h4 => by
    rw [hg.block k (Nat.lt_of_lt_of_le hk h.size) (fun e => by have := hr k e.symm; omega)]; exact h.block k hk h1 h2 h3 h4⟩
theorem Fr.below {w7 W : World} {P Bt Bc Bs B : Nat} (h : Fr w7 W P Bt Bc Bs) (hB : B ≤ w7.heap.size) (h1 : B ≤ P) (h2 : B ≤ Bt) (h3 : B ≤ Bc) (h4 : B ≤ Bs) : Below B w7 W :=
  ⟨h.os, h.tape, h.output, h.size, fun k hk => h.block k (by omega) (by omega) (by omega) (by omega) (by omega)⟩
theorem Fr.ints {w7 W : World} {P Bt Bc Bs : Nat} (h : Fr w7 W P Bt Bc Bs) {v : Value} {xs : List Int} (hv : Ints w7 v xs) (hne : ∀ b, v.ownBlock = some b → b ≠ P ∧ b ≠ Bt ∧ b ≠ Bc ∧ b ≠ Bs) : Ints W v xs := by
  obtain ⟨a, cap, rfl, hl, hc⟩ := hv
  refine ⟨a, cap, rfl, hl, fun h0 => ?_⟩
  obtain ⟨b, off, rfl, hcell⟩ := hc h0
  refine ⟨b, off, rfl, fun i hi => ?_⟩
  obtain ⟨n1, n2, n3, n4⟩ := hne b rfl
  rw [World.cell?_of_block (w := w7) (h.block b (World.block_lt_of_cell? w7 _ (hcell i hi)) n1 n2 n3 n4)]
  exact hcell i hi

/-- One promised list more. -/
theorem prom_step {w2 wr w6 W5 : World} {P Bp Bt Bc Bs n k base : Nat} {Vp : Nat → Value} {L : Nat → List Int} {v6 : Value} {C S : Nat → Int} {vS : Value} {Vt : Nat → Value}
    (hb : Below w2.heap.size w2 wr) (hbW6 : Below wr.heap.size wr w6) (hw2 : w2.heap.size ≤ Bp) (hbase : base ≤ wr.heap.size) (hBpb : Bp < base) (hr6 : RowsOf w6 P Bp Bt Bc Bs n vS Vp Vt C S)
    (hI : Ints w6 v6 (L k)) (h5 : wr.heap.size ≤ W5.heap.size) (hfr : ∀ b, v6.ownBlock = some b → W5.heap.size ≤ b ∧ b < w6.heap.size)
    (hV : ∀ j, j < k → Ints wr (Vp j) (L j) ∧ ∀ b, (Vp j).ownBlock = some b → base ≤ b ∧ b < wr.heap.size) :
    Below w2.heap.size w2 (w6.setCell ⟨Bp, k, none⟩ v6) ∧ base ≤ (w6.setCell ⟨Bp, k, none⟩ v6).heap.size ∧ RowsOf (w6.setCell ⟨Bp, k, none⟩ v6) P Bp Bt Bc Bs n vS (upd Vp k v6) Vt C S ∧
      ∀ j, j < k + 1 → Ints (w6.setCell ⟨Bp, k, none⟩ v6) (upd Vp k v6 j) (L j) ∧ ∀ b, (upd Vp k v6 j).ownBlock = some b → base ≤ b ∧ b < (w6.setCell ⟨Bp, k, none⟩ v6).heap.size := by
  have hgs : w6.grownBy (w6.setCell ⟨Bp, k, none⟩ v6) (some Bp) := grownBy_setCell (grownBy_refl _ _) k _
  have hss : (w6.setCell ⟨Bp, k, none⟩ v6).heap.size = w6.heap.size := by simp [World.setCell]
  have h6 := hbW6.size
  refine ⟨(hb.trans (hbW6.mono hb.size)).setCell hw2 _, by omega, hr6.setBp k _, fun j hj => ?_⟩
  by_cases hjk : j = k
  · subst hjk
    rw [upd_at]
    refine ⟨hI.kept hgs (fun b hb e => ?_), fun b hb => ?_⟩
    · have := hfr b hb; cases e; omega
    · have := hfr b hb; rw [hss]; omega
  · rw [upd_off hjk]
    obtain ⟨h1, h2⟩ := hV j (by omega)
    refine ⟨(h1.below hbW6 (Nat.le_refl _)).kept hgs (fun b hb e => ?_), fun b hb => ?_⟩
    · have := h2 b hb; cases e; omega
    · have := h2 b hb; rw [hss]; omega

theorem thr_step {w7 W12 w13 : World} {P Bp Bt Bc Bs F j : Nat} {V' Vp : Nat → Value} {C S : Nat → Int} {L : Nat → List Int} {l : List Int} {g n cap : Nat}
    (hfr : Fr w7 W12 P Bt Bc Bs) (hr : RowsOf w13 P Bp Bt Bc Bs F (V' F) Vp V' C S) (hfam : Fam W12 3 w7.heap.size (F + 1) V' L) (hj : j < F)
    (ho : w13.ownsRow w7.heap.size 3 1 (.slice (some ⟨g, 0, none⟩) n cap) l.length (l.map (Value.int .i64))) (hgr : W12.grownBy w13 (V' j).ownBlock) (hat : (V' j).ownBlock = some g ∨ W12.heap.size ≤ g) (hBt : Bt < w7.heap.size) :
    Fr w7 (w13.setCell ⟨Bt, j, none⟩ (.slice (some ⟨g, 0, none⟩) n cap)) P Bt Bc Bs ∧
    RowsOf (w13.setCell ⟨Bt, j, none⟩ (.slice (some ⟨g, 0, none⟩) n cap)) P Bp Bt Bc Bs F (upd V' j (.slice (some ⟨g, 0, none⟩) n cap) F) Vp (upd V' j (.slice (some ⟨g, 0, none⟩) n cap)) C S ∧
    Fam (w13.setCell ⟨Bt, j, none⟩ (.slice (some ⟨g, 0, none⟩) n cap)) 3 w7.heap.size (F + 1) (upd V' j (.slice (some ⟨g, 0, none⟩) n cap)) (upd L j l) := by
  have hs : w13.grownBy (w13.setCell ⟨Bt, j, none⟩ (.slice (some ⟨g, 0, none⟩) n cap)) (some Bt) := grownBy_setCell (grownBy_refl _ _) j _
  refine ⟨(hfr.trans_grown hgr (fun k hk => by have := ((hfam.1 j (by omega)).lt k hk).1; omega)).trans_grown hs (fun k hk => by cases hk; simp), ?_, (hfam.append (i := j) (by omega) ho hgr hat).kept hs (fun k hk => by cases hk; exact hBt)⟩
  rw [upd_off (show F ≠ j by omega)]
  exact hr.setBt j _

/-- How many have come of each, while the flows of tick t are gone through: i of them are. -/
def mixC (cs : Nat → List Int) (t i j : Nat) : Int := if j < i then pre (cs j) (t + 1) else pre (cs j) t
theorem mixC_zero (cs : Nat → List Int) (t j : Nat) : mixC cs t 0 j = pre (cs j) t := if_neg (by omega)
theorem mixC_all {cs : Nat → List Int} {t n j : Nat} (h : j < n) : mixC cs t n j = pre (cs j) (t + 1) := if_pos h
theorem mixC_at (cs : Nat → List Int) (t i : Nat) : mixC cs t i i = pre (cs i) t := if_neg (by omega)
theorem mixC_next (cs : Nat → List Int) (t i : Nat) : mixC cs t (i + 1) i = pre (cs i) (t + 1) := if_pos (by omega)
theorem mixC_off {cs : Nat → List Int} {t i j : Nat} (h : j ≠ i) : mixC cs t (i + 1) j = mixC cs t i j := by
  unfold mixC
  by_cases h1 : j < i
  · rw [if_pos h1, if_pos (by omega)]
  · rw [if_neg h1, if_neg (by omega)]

/-- The own lists behind t ticks: whose cell went (at place F), when each flow's cells were through. -/
def tickL (T : Nat) (D come : Nat → List Int) (F t i : Nat) : List Int := if i = F then sentL T D come F t else thrL T D come F t i
theorem tickL_zero (T : Nat) (D come : Nat → List Int) (F i : Nat) : [] = tickL T D come F 0 i := by unfold tickL; split <;> rfl

/-- The lists while those of the first k flows are filled up. -/
def padK (T : Nat) (D come : Nat → List Int) (F k i : Nat) : List Int := if i = F then sentL T D come F T else if i < k then padM (thrL T D come F T i) (D i).length else thrL T D come F T i
theorem padK_zero (T : Nat) (D come : Nat → List Int) (F i : Nat) : padK T D come F 0 i = tickL T D come F T i := by
  unfold padK tickL; split
  · rfl
  · rw [if_neg (by omega)]
theorem padK_at {T : Nat} {D come : Nat → List Int} {F k : Nat} (h : k ≠ F) : padK T D come F k k = thrL T D come F T k := by rw [padK, if_neg h, if_neg (by omega)]
theorem padK_next {T : Nat} {D come : Nat → List Int} {F k : Nat} (h : k < F) : padK T D come F (k + 1) k = padM (thrL T D come F T k) (D k).length := by rw [padK, if_neg (by omega), if_pos (by omega)]
theorem padK_off {T : Nat} {D come : Nat → List Int} {F k i : Nat} (h : i ≠ k) : padK T D come F (k + 1) i = padK T D come F k i := by
  unfold padK
  split
  · rfl
  · by_cases h1 : i < k
    · rw [if_pos h1, if_pos (by omega)]
    · rw [if_neg h1, if_neg (by omega)]
theorem owns_slice {W : World} {base : Nat} {e : TypeId} {size n : Nat} {v : Value} {xs : List Value} (h : W.ownsRow base e size v n xs) : ∃ a cap, v = .slice a n cap := by
  rcases h.2 with ⟨h1, h2⟩ | ⟨g, cap, _, h1, _⟩
  · exact ⟨none, 0, by rw [h1, h2]⟩
  · exact ⟨_, cap, h1⟩

def MakeP (w : World) (sent : List Int) (prom thr : List (List Int)) (e : Ending) (w' : World) : Prop :=
  ∃ vS vP vT, e = .returned (.tuple #[.agg #[vS, vP, vT], .nilIface]) ∧ Ints w' vS sent ∧ Lists w' vP prom ∧ Lists w' vT thr ∧ Below w.heap.size w w'

set_option maxHeartbeats 40000000 in
set_option maxRecDepth 100000 in
theorem Make_ok (v : Value) (fs : Fl) (T : Nat) (w : World) (h : Flows w v fs) (hn : makeChk fs T = 0) :
    Calls Tryd.prog 7 #[v, .int .i64 T] w (MakeP w (sentOf fs T) (promOf fs T) (thrOf fs T)) := by
  obtain ⟨W0, hW0⟩ : ∃ W0, W0 = w.alloc (.cells #[.slice none 0 0, .slice none 0 0, .slice none 0 0] 35) := ⟨_, rfl⟩
  have hb0 : Below w.heap.size w W0 := by rw [hW0]; exact (Below.refl _ _).alloc (Nat.le_refl _) _
  have hchk := scedCheck_any v fs W0 (h.below hb0 (Nat.le_refl _))
  have hR0 : W0.heap[w.heap.size]? = some (.cells #[.slice none 0 0, .slice none 0 0, .slice none 0 0] 35 (0, 0)) := by rw [hW0]; exact heap_alloc_new _ _
  have hlt0 : w.heap.size < W0.heap.size := by rw [hW0, size_alloc]; omega
  have hF := h.below hb0 (Nat.le_refl _)
  have hs : scedChk fs = 0 := by
    by_cases hs : scedChk fs = 0
    · exact hs
    · rw [makeChk_bad hs] at hn; exact absurd hn hs
  rw [makeChk_ok hs] at hn
  have hrg := rangeGo_zero fs T fs.length 0 (by omega) hn
  rw [errV_zero hs, hW0] at hchk
  have HC := Lib.hid hchk; clear hchk
  obtain ⟨hl1, hl2, hok⟩ := scedChk_zero hs
  have hblk : ∀ w1, Below W0.heap.size W0 w1 → w1.heap[w.heap.size]? = some (.cells #[.slice none 0 0, .slice none 0 0, .slice none 0 0] 35 (0, 0)) ∧ Below w.heap.size w w1 ∧ Flows w1 v fs ∧ w.heap.size < w1.heap.size :=
    fun w1 hb => ⟨below_heap hb hR0 hlt0, hb0.trans (hb.mono (by omega)), hF.below hb (Nat.le_refl _), Nat.lt_of_lt_of_le hlt0 hb.size⟩
  rw [hW0] at hblk
  have HB := Lib.hid hblk
  obtain ⟨a, cap, rfl, hl, _⟩ := h
  have HRG := Lib.hid hrg; have HOK := Lib.hid hok
  have hT : T ≤ 200 := by
    have h1 := (hrg 0 (by omega) (by omega)).2
    have h2 := (Curve.of (hok 0 (by omega)).1).2.1
    omega
  have hmkL := run_make_row' (P := Tryd.prog) 31 28 (.slice none 0 0) 24 Tryd.underlying31 infoInts rfl .i64 .i64 fs.length (by omega) (by omega)
  have hmkI := run_make_row' (P := Tryd.prog) 28 3 (.int .i64 0) 8 Tryd.underlying28 infoInt rfl .i64 .i64 fs.length (by omega) (by omega)
  have HML := Lib.hid hmkL; have HMI := Lib.hid hmkI
  clear hblk hR0 hb0 hW0 hlt0 hn hs hok hF hrg hmkL hmkI
  go_enter Tryd.func7, Tryd.ntmps7
  go_wp2_with (go_at_call 15; refine (HC.out).mono ?_; rintro e w1 ⟨rfl, hb1⟩; obtain ⟨hB3, hbw, hFw, hlw⟩ := HB.out _ hb1; have HFW := Lib.hid hFw; have HB3 := Lib.hid hB3; clear hB3 hb1 hFw)
  go_loopg [29] fs.length (fun g i ww => w1.grownBy ww none ∧ ∃ k : Nat, k + g = fs.length ∧ i = .int .i64 k)
  case atStart => exact ⟨grownBy_refl _ _, 0, by omega, rfl⟩
  case round =>
    obtain ⟨hg, k, hk, rfl⟩ := hrel
    have hb1r : Below w1.heap.size w1 wr := (Below.refl _ _).grown hg (Nat.le_refl _) (fun k hk => by cases hk)
    have hFr := HFW.out.below hb1r (Nat.le_refl _)
    by_cases hlt : k < fs.length
    ·
      as_aux_lemma =>
      obtain ⟨n, rfl⟩ : ∃ n, gk = n + 1 := ⟨gk - 1, by omega⟩
      obtain ⟨a', cap', e1, _, hc⟩ := hFr
      cases e1
      obtain ⟨b, off, rfl, hcell⟩ := hc (by omega)
      obtain ⟨c, p, q1, q2, q3, q4⟩ := hcell k hlt
      obtain ⟨ac, cc, rfl, hlc, _⟩ := q3
      obtain ⟨ap, cp, rfl, hlp, _⟩ := q4
      obtain ⟨h1, h2⟩ := HRG.out k (by omega) hlt
      have h1' : ¬ (T : Int) < (fC fs k).length := by omega
      have h2' : ¬ ((fP fs k).length : Int) ≤ T := by omega
      clear hc hcell hb1r h1 h2
      go_wp2
      go_roundg n
      case measure => omega
      case rel => exact ⟨grownBy_alloc hg _, k + 1, by omega, by go_num⟩
    · -- behind the look: the plan is laid
      have hbr := hbw.trans (hb1r.mono (by omega))
      have HFR := Lib.hid hFr
      have HR := Lib.hid (heap_kept HB3.out hg (by simp))
      have hlr : w.heap.size < wr.heap.size := Nat.lt_of_lt_of_le hlw hg.size
      clear hFr hg hb1r HFW HB3 hbw hlw HB HC
      rename World => w2
      go_upto_region 10 with fail
      go_cut [9] (fun s9 W => w2.grownBy W none ∧ ∃ P Bp Bt, s9 = .pointer (some ⟨P, 0, none⟩) ∧ w2.heap.size ≤ P ∧ w2.heap.size ≤ Bp ∧ w2.heap.size ≤ Bt ∧ P ≠ Bp ∧ P ≠ Bt ∧ Bp ≠ Bt ∧
        W.heap[P]? = some (.cells #[.slice none 0 0, .slice (some ⟨Bp, 0, none⟩) fs.length fs.length, .slice (some ⟨Bt, 0, none⟩) fs.length fs.length] 35 (0, 0)) ∧ W.rowIs Bp 28 fs.length (fun _ => .slice none 0 0) ∧ W.rowIs Bt 28 fs.length (fun _ => .slice none 0 0))
      case first =>
        as_aux_lemma =>
        have hm := HML.out
        go_region
        all_goals (go_wp2_with fail; go_meet; refine ⟨grownBy_drewN (grownBy_alloc (grownBy_alloc (grownBy_alloc (grownBy_refl _ _) _) _) _) 1, ?_⟩)
        all_goals first | exact ⟨w2.heap.size, w2.heap.size + 1, w2.heap.size + 1 + 1, rfl, by omega, by omega, by omega, by omega, by omega, by omega, (alloc3_get w2 _ _ _ 1).1, rowIs_of_made (alloc3_get w2 _ _ _ 1).2.1, rowIs_of_made (alloc3_get w2 _ _ _ 1).2.2⟩ | exact ⟨w2.heap.size, w2.heap.size + 1 + 1, w2.heap.size + 1, rfl, by omega, by omega, by omega, by omega, by omega, by omega, (alloc3_get w2 _ _ _ 1).1, rowIs_of_made (alloc3_get w2 _ _ _ 1).2.2, rowIs_of_made (alloc3_get w2 _ _ _ 1).2.1⟩ | exact ⟨w2.heap.size + 1, w2.heap.size, w2.heap.size + 1 + 1, rfl, by omega, by omega, by omega, by omega, by omega, by omega, (alloc3_get w2 _ _ _ 1).2.1, rowIs_of_made (alloc3_get w2 _ _ _ 1).1, rowIs_of_made (alloc3_get w2 _ _ _ 1).2.2⟩ | exact ⟨w2.heap.size + 1, w2.heap.size + 1 + 1, w2.heap.size, rfl, by omega, by omega, by omega, by omega, by omega, by omega, (alloc3_get w2 _ _ _ 1).2.1, rowIs_of_made (alloc3_get w2 _ _ _ 1).2.2, rowIs_of_made (alloc3_get w2 _ _ _ 1).1⟩ | exact ⟨w2.heap.size + 1 + 1, w2.heap.size, w2.heap.size + 1, rfl, by omega, by omega, by omega, by omega, by omega, by omega, (alloc3_get w2 _ _ _ 1).2.2, rowIs_of_made (alloc3_get w2 _ _ _ 1).1, rowIs_of_made (alloc3_get w2 _ _ _ 1).2.1⟩ | exact ⟨w2.heap.size + 1 + 1, w2.heap.size + 1, w2.heap.size, rfl, by omega, by omega, by omega, by omega, by omega, by omega, (alloc3_get w2 _ _ _ 1).2.2, rowIs_of_made (alloc3_get w2 _ _ _ 1).2.1, rowIs_of_made (alloc3_get w2 _ _ _ 1).1⟩
      case rest =>
        obtain ⟨hg2, P, Bp, Bt, rfl, hP1, hP2, hP3, hP4, hP5, hP6, hBP, hBp, hBt⟩ := hcut
        have hMI := HMI.out
        rename World => w3
        go_upto_region 11 with fail
        go_cut [10, 11] (fun s10 s11 W => w3.grownBy W none ∧ ∃ Bc Bs, s10 = .slice (some ⟨Bc, 0, none⟩) fs.length fs.length ∧ s11 = .slice (some ⟨Bs, 0, none⟩) fs.length fs.length ∧ w3.heap.size ≤ Bc ∧ w3.heap.size ≤ Bs ∧ Bc ≠ Bs ∧
          W.rowIs Bc 3 fs.length (fun _ => .int .i64 0) ∧ W.rowIs Bs 3 fs.length (fun _ => .int .i64 0))
        case first =>
          as_aux_lemma =>
          go_region
          all_goals (go_wp2_with fail; go_meet; refine ⟨grownBy_drewN (grownBy_alloc (grownBy_alloc (grownBy_refl _ _) _) _) 1, ?_⟩)
          all_goals first | exact ⟨w3.heap.size, w3.heap.size + 1, rfl, rfl, by omega, by omega, by omega, rowIs_of_made (alloc2_both w3 _ _ 1).1, rowIs_of_made (alloc2_both w3 _ _ 1).2⟩ | exact ⟨w3.heap.size + 1, w3.heap.size, rfl, rfl, by omega, by omega, by omega, rowIs_of_made (alloc2_both w3 _ _ 1).2, rowIs_of_made (alloc2_both w3 _ _ 1).1⟩
        case rest =>
          obtain ⟨hg3, Bc, Bs, rfl, rfl, hQ1, hQ2, hQ3, hBc, hBs⟩ := hcut
          rename World => w4
          -- what has been laid, in one word
          have hP3' : P < w3.heap.size := (Array.getElem?_eq_some_iff.1 hBP).1
          have hBp3 : Bp < w3.heap.size := hBp.lt
          have hBt3 : Bt < w3.heap.size := hBt.lt
          have hBc4 : Bc < w4.heap.size := hBc.lt
          have hBs4 : Bs < w4.heap.size := hBs.lt
          have hR0 : RowsOf w4 P Bp Bt Bc Bs fs.length (.slice none 0 0) (fun _ => .slice none 0 0) (fun _ => .slice none 0 0) (fun _ => 0) (fun _ => 0) :=
            ⟨heap_kept hBP hg3 (by simp), rowIs_kept hBp hg3 (by simp), rowIs_kept hBt hg3 (by simp), hBc, hBs, ⟨hP4, hP5, by omega, by omega⟩, ⟨hP6, by omega, by omega⟩, ⟨by omega, by omega⟩, hQ3⟩
          have hb4 : Below w2.heap.size w2 w4 := (Below.refl _ _).grown (grownBy_trans hg2 hg3) (Nat.le_refl _) (fun k hk => by cases hk)
          have hsz34 := hg3.size
          have hsz23 := hg2.size
          have HR0 := Lib.hid hR0
          clear hBP hBp hBt hBc hBs hg2 hg3 hMI hR0
          go_wp2_with fail
          -- by when cells are promised
          go_loopg [63] fs.length (fun g i W => Below w2.heap.size w2 W ∧ w4.heap.size ≤ W.heap.size ∧ ∃ (k : Nat) (Vp : Nat → Value), k + g = fs.length ∧ i = .int .i64 k ∧
            RowsOf W P Bp Bt Bc Bs fs.length (.slice none 0 0) Vp (fun _ => .slice none 0 0) (fun _ => 0) (fun _ => 0) ∧
            ∀ j, j < k → Ints W (Vp j) (promF fs T j) ∧ ∀ b, (Vp j).ownBlock = some b → w4.heap.size ≤ b ∧ b < W.heap.size)
          case atStart => exact ⟨hb4, Nat.le_refl _, 0, _, by omega, rfl, HR0.out, fun j hj => by omega⟩
          case round =>
            clear HR0 hb4
            obtain ⟨hb, hsz, k, Vp, hk, rfl, hrows, hV⟩ := hrel
            by_cases hlt : k < fs.length
            · obtain ⟨n, rfl⟩ : ∃ n, gk = n + 1 := ⟨gk - 1, by omega⟩
              as_aux_lemma =>
              have hFr := HFR.out.below hb (Nat.le_refl _)
              obtain ⟨a', cap', e1, _, hc⟩ := hFr
              cases e1
              obtain ⟨b, off, rfl, hcell⟩ := hc (by omega)
              obtain ⟨c, p, q1, q2, q3, q4⟩ := hcell k hlt
              have hdue : ∀ W, Below wr.heap.size wr W → Calls Tryd.prog 16 #[.agg #[c, p], .int .i64 T] W (DueP W (promF fs T k)) := fun W hw =>
                due_any c p (fC fs k) (fP fs k) T W (q3.below hw (Nat.le_refl _)) (q4.below hw (Nat.le_refl _)) (HOK.out k hlt).1 (by have := (HRG.out k (by omega) hlt).1; omega) (by have := (HRG.out k (by omega) hlt).2; omega) (HOK.out k hlt).come
              obtain ⟨ac, cc, rfl, _, _⟩ := q3
              obtain ⟨ap, cp, rfl, _, _⟩ := q4
              have HD := Lib.hid hdue; have HV := Lib.hid hV; have HRW := Lib.hid hrows
              clear hc hcell hdue hV hrows
              go_upto_region 15 with fail
              refine wp_forget (fun W => wr.grownBy W none ∧ wr.heap.size < W.heap.size ∧ W.heap[wr.heap.size]? = some (.cells #[.slice ac (fC fs k).length cc, .slice ap (fP fs k).length cp] 46 (0, 0))) ⟨World.grownBy_alloc _ _ _, by rw [size_alloc]; omega, heap_alloc_new _ _⟩ ?_
              rintro W5 ⟨hg5, hlt5, hbox⟩
              clear q1 q2
              have hfacts : ∀ W, Below W5.heap.size W5 W → (W.cell? ⟨wr.heap.size, 0, none⟩ = some (.slice ac (fC fs k).length cc) ∧ W.cell? ⟨wr.heap.size, 1, none⟩ = some (.slice ap (fP fs k).length cp)) ∧
                  RowsOf W P Bp Bt Bc Bs fs.length (.slice none 0 0) Vp (fun _ => .slice none 0 0) (fun _ => 0) (fun _ => 0) ∧ Below wr.heap.size wr W ∧ W.cell? ⟨P, 1, none⟩ = some (.slice (some ⟨Bp, 0, none⟩) fs.length fs.length) ∧ W.cell? ⟨Bp, k, none⟩ = some (Vp k) ∧ W.frozen? ⟨Bp, k, none⟩ = false := fun W hw => by
                have hbx := below_heap hw hbox hlt5
                have hr := (HRW.out.grown hg5).below hw
                refine ⟨⟨by simp [World.cell?, hbx], by simp [World.cell?, hbx]⟩, hr, ((Below.refl _ _).grown hg5 (Nat.le_refl _) (fun k hk => by cases hk)).trans (hw.mono hg5.size), (block3 hr.p).2.1, hr.bp.cell hlt, hr.bp.frozen k⟩
              have HFA := Lib.hid hfacts
              obtain ⟨⟨x0, x1⟩, _, hbW, y0, y1, y2⟩ := hfacts W5 (Below.refl _ _)
              clear hfacts hbox
              go_region_with (go_at_call 16; refine (HD.out _ (hbW.drew)).mono ?_; rintro e w6 ⟨v6, rfl, hI6, hb6, hfr6⟩; have hI7 := Lib.hid hI6; obtain ⟨a6, c6, rfl, _, _⟩ := hI6; have hfr7 := Lib.hid hfr6; clear hfr6; obtain ⟨⟨x0', x1'⟩, hr6, hbW6, y0', y1', y2'⟩ := HFA.out w6 (Below.trans (Below.drew (Below.refl _ _)) hb6))
              all_goals
                go_wp2
                go_roundg n
                case measure => omega
                case rel =>
                  obtain ⟨t1, t2, t3, t4⟩ := prom_step (L := promF fs T) hb hbW6 (by omega) hsz (by omega) hr6 hI7.out hg5.size hfr7.out HV.out
                  exact ⟨t1, t2, k + 1, _, by omega, by go_num, t3, t4⟩
            · have hkn : k = fs.length := by omega
              have hV' : ∀ j, j < fs.length → Ints wr (Vp j) (promF fs T j) ∧ ∀ b, (Vp j).ownBlock = some b → w4.heap.size ≤ b ∧ b < wr.heap.size := fun j hj => hV j (by omega)
              obtain ⟨D, hD⟩ : ∃ D : Nat → List Int, D = promF fs T := ⟨_, rfl⟩
              have hVD : ∀ j, j < fs.length → Ints wr (Vp j) (D j) ∧ ∀ b, (Vp j).ownBlock = some b → w4.heap.size ≤ b ∧ b < wr.heap.size := by rw [hD]; exact hV'
              have hDl : ∀ j, j < fs.length → (D j).length = cellsN (fC fs j) := fun j _ => by rw [hD]; exact dueL_length _ _
              have HDD := Lib.hid hD; have HVD := Lib.hid hVD; have HDL := Lib.hid hDl; have HRW := Lib.hid hrows
              have hcome : ∀ j, j < fs.length → Come (fC fs j) := fun j hj => (HOK.out j hj).come
              have HCO := Lib.hid hcome
              have hcn : ∀ j, j < fs.length → (cellsN (fC fs j) : Int) ≤ 300000000 := fun j hj => by
                have h1 := pre_bd (hcome j hj) (fC fs j).length (Nat.le_refl _)
                have h2 := (HRG.out j (by omega) hj).1
                unfold cellsN; omega
              have HCN := Lib.hid hcn
              have hlts := hrows.lts
              clear hV hV' hD hVD hDl hkn hcome hcn
              rename World => w7
              go_wp2_with fail
              -- tick by tick
              go_loopg [77] T (fun g i W => Fr w7 W P Bt Bc Bs ∧ ∃ (t : Nat) (V : Nat → Value), t + g = T ∧ i = .int .i64 t ∧
                RowsOf W P Bp Bt Bc Bs fs.length (V fs.length) Vp V (fun j => pre (fC fs j) t) (fun j => (stS T D (fC fs) fs.length t j : Int)) ∧ Fam W 3 w7.heap.size (fs.length + 1) V (tickL T D (fC fs) fs.length t))
              case atStart => exact ⟨Fr.refl _ _ _ _ _, 0, fun _ => .slice none 0 0, by omega, rfl, HRW.out, (Fam.fresh _ _ _ _).congr (fun i _ => tickL_zero _ _ _ _ _)⟩
              case round =>
                obtain ⟨hfr, t, V, htk, rfl, hrt, hfam⟩ := hrel
                by_cases hltT : t < T
                ·
                  as_aux_lemma =>
                  obtain ⟨n, rfl⟩ : ∃ n, gk = n + 1 := ⟨gk - 1, by omega⟩
                  rename World => w8
                  go_wp2_with fail
                  have hbc8 := hrt.bc
                  -- flow by flow
                  go_loopg [15, 16, 82] fs.length (fun g bst soon i W => w8.grownBy W (some Bc) ∧ ∃ i' : Nat, i' + g = fs.length ∧ i = .int .i64 i' ∧
                    W.rowIs Bc 3 fs.length (fun j => .int .i64 (mixC (fC fs) t i' j)) ∧
                    bst = .int .i64 (pk T D (fun j => pre (fC fs j) (t + 1)) (stS T D (fC fs) fs.length t) i').1 ∧ soon = .int .i64 (pk T D (fun j => pre (fC fs j) (t + 1)) (stS T D (fC fs) fs.length t) i').2)
                  case atStart => exact ⟨grownBy_refl _ _, 0, by omega, rfl, hbc8.congr (fun j _ => by rw [mixC_zero]), rfl, rfl⟩
                  case round =>
                    clear hbc8
                    obtain ⟨hg, i, hik, rfl, hbc, rfl, rfl⟩ := hrel
                    by_cases hlti : i < fs.length
                    · obtain ⟨m, rfl⟩ : ∃ m, gk = m + 1 := ⟨gk - 1, by omega⟩
                      as_aux_lemma =>
                      have hw27 := hb.size
                      have hbW : Below w2.heap.size w2 wr := (hb.trans ((hfr.below (by omega) (by omega) (by omega) (by omega) (by omega)))).trans (Below.of_grown hg (by have := hfr.size; omega) (by omega))
                      have hFr := HFR.out.below hbW (Nat.le_refl _)
                      obtain ⟨a', cap', e1, _, hc⟩ := hFr
                      cases e1
                      obtain ⟨b, off, rfl, hcell⟩ := hc (by omega)
                      obtain ⟨c, p, q1, q2, q3, q4⟩ := hcell i hlti
                      obtain ⟨ac, cc, rfl, hlc, hcc⟩ := q3
                      obtain ⟨ap, cp, rfl, _, _⟩ := q4
                      have HCC := Lib.hid hcc
                      clear hc hcell hcc
                      go_upto_if 91 with fail
                      refine wp_forget (fun W => w8.grownBy W (some Bc) ∧ wr.grownBy W none ∧ W.heap[wr.heap.size]? = some (.cells #[.slice ac (fC fs i).length cc, .slice ap (fP fs i).length cp] 46 (0, 0))) ⟨grownBy_alloc hg _, World.grownBy_alloc _ _ _, heap_alloc_new _ _⟩ ?_
                      rintro W5 ⟨hg5, hgn5, hbox⟩
                      have hbc5 := rowIs_kept hbc hgn5 (by simp)
                      have hrow5 := hbc5.cell hlti
                      have hfz5 := hbc5.frozen i
                      rw [mixC_at] at hrow5
                      have hx0 : W5.cell? ⟨wr.heap.size, 0, none⟩ = some (.slice ac (fC fs i).length cc) := by simp [World.cell?, hbox]
                      go_cut [] (fun W => w8.grownBy W (some Bc) ∧ W.rowIs Bc 3 fs.length (fun j => .int .i64 (mixC (fC fs) t (i + 1) j)))
                      case first =>
                        as_aux_lemma =>
                        have hstep : pre (fC fs i) (t + 1) = pre (fC fs i) t + gi (fC fs i) t := rfl
                        have HST := Lib.hid hstep; clear hstep
                        by_cases htl : t < (fC fs i).length
                        · obtain ⟨bC, oC, rfl, hcC⟩ := HCC.out (by omega)
                          have hy : W5.cell? ⟨bC, oC + t, none⟩ = some (.int .i64 (gi (fC fs i) t)) := hgn5.cell (a := ⟨bC, oC + t, none⟩) (hcC t htl) (by simp)
                          have hp := pre_bd (HCO.out i hlti) t (by omega)
                          have hp2 := HCO.out i hlti t htl
                          have hlen := (HRG.out i (by omega) hlti).1
                          have hwr := IntWalk.i64_in (pre (fC fs i) t + gi (fC fs i) t) (by omega)
                          clear hcC hbox
                          go_wp2
                          go_region
                          all_goals
                            go_wp2_with fail
                            go_meet
                            case rel =>
                              refine ⟨grownBy_setCell (grownBy_drewN hg5 1) i _, ((hbc5.drew).set i _).congr (fun j hj => ?_)⟩
                              by_cases hji : j = i
                              · subst hji; rw [if_pos rfl, mixC_next, HST.out]
                              · rw [if_neg hji, mixC_off hji]
                        · have hg0 : gi (fC fs i) t = 0 := by simp [gi, List.getElem?_eq_none (show (fC fs i).length ≤ t by omega)]
                          have HG0 := Lib.hid hg0; clear hg0 hbox
                          go_wp2_with fail
                          go_meet
                          case rel =>
                            refine ⟨hg5, hbc5.congr (fun j hj => ?_)⟩
                            by_cases hji : j = i
                            · subst hji; rw [mixC_at, mixC_next, HST.out, HG0.out, Int.add_zero]
                            · rw [mixC_off hji]
                      case rest =>
                        clear hg hbc hbox hgn5 hg5 hbc5 hrow5 hfz5 hx0 q1 q2 hbW
                        obtain ⟨hg6, hbc6⟩ := hcut
                        rename World => w9
                        have hne : some Bp ≠ some Bc ∧ some Bs ≠ some Bc ∧ some P ≠ some Bc := by
                          obtain ⟨⟨_, _, h1, _⟩, ⟨_, h2, _⟩, _, h4⟩ := hrt.nd
                          exact ⟨by simp [h2], fun e => h4 (Option.some.inj e).symm, by simp [h1]⟩
                        have hvi := HVD.out i hlti
                        have hvi9 : Ints w9 (Vp i) (D i) := (hfr.ints hvi.1 (fun b hb => by have := hvi.2 b hb; omega)).kept hg6 (fun b hb e => by have := hvi.2 b hb; cases e; omega)
                        obtain ⟨aD, cD, hvD, hlD, hcD⟩ := hvi9
                        have hbp9 := (rowIs_kept hrt.bp hg6 hne.1).cell hlti
                        rw [hvD] at hbp9
                        have hbs9 := (rowIs_kept hrt.bs hg6 hne.2.1).cell hlti
                        have hp9 := (block3 (heap_kept hrt.p hg6 hne.2.2)).2.1
                        have hbcc := hbc6.cell hlti
                        rw [mixC_next] at hbcc
                        have HCD := Lib.hid hcD
                        have HBC6 := Lib.hid hbc6
                        have hSle := stS_le (T := T) (D := D) HCO.out t i hlti
                        have hpm := pre_mono (HCO.out i hlti) (show t ≤ t + 1 by omega)
                        have hDl := HDL.out i hlti
                        have hcap : pre (fC fs i) (t + 1) ≤ (cellsN (fC fs i) : Int) := by
                          have h0 := pre_bd (HCO.out i hlti) (fC fs i).length (Nat.le_refl _)
                          rcases Nat.lt_or_ge (t + 1) (fC fs i).length with h3 | h3
                          · have := pre_mono (HCO.out i hlti) (show t + 1 ≤ (fC fs i).length by omega)
                            unfold cellsN; omega
                          · rw [pre_past h3]; unfold cellsN; omega
                        clear hvD hcD hbc6 hvi
                        by_cases hS : (stS T D (fC fs) fs.length t i : Int) = pre (fC fs i) (t + 1)
                        · have hSb : ((stS T D (fC fs) fs.length t i : Int) == pre (fC fs i) (t + 1)) = true := by simpa using hS
                          have HS := Lib.hid (pk_none (T := T) (D := D) (C := fun j => pre (fC fs j) (t + 1)) (S := stS T D (fC fs) fs.length t) (i := i) hS)
                          clear hS
                          go_wp2
                          go_quiet (fail)
                          go_wp2
                          go_roundg m
                          case measure => omega
                          case rel => exact ⟨grownBy_drewN hg6 _, i + 1, by omega, by go_num, HBC6.out, by rw [HS.out], by rw [HS.out]⟩
                        · have hSb : ((stS T D (fC fs) fs.length t i : Int) == pre (fC fs i) (t + 1)) = false := by simpa using hS
                          have HS := Lib.hid hS; clear hS
                          have hlen : stS T D (fC fs) fs.length t i < (D i).length := by have := HS.out; omega
                          obtain ⟨bD, oD, rfl, hcd⟩ := HCD.out (by omega)
                          have hd9 := hcd (stS T D (fC fs) fs.length t i) hlen
                          clear hcd hDl
                          go_upto_if 124 with (first | go_quiet (fail))
                          go_cut [19] (fun s19 W => s19 = .int .i64 (kd T (gi (D i) (stS T D (fC fs) fs.length t i))) ∧ w8.grownBy W (some Bc) ∧ W.rowIs Bc 3 fs.length (fun j => .int .i64 (mixC (fC fs) t (i + 1) j)))
                          case first =>
                            by_cases hneg : gi (D i) (stS T D (fC fs) fs.length t i) < 0
                            · have HK := Lib.hid (kd_neg (T := T) hneg)
                              go_wp2_with fail
                              go_meet
                              case rel => exact ⟨by rw [HK.out], grownBy_drewN hg6 _, HBC6.out⟩
                            · have HK := Lib.hid (kd_pos (T := T) hneg)
                              go_wp2_with fail
                              go_meet
                              case rel => exact ⟨by rw [HK.out], grownBy_drewN hg6 _, HBC6.out⟩
                          case rest =>
                            clear hg6 HBC6 hd9 hbp9 hbs9 hp9 hbcc
                            obtain ⟨rfl, hg7, hbc7⟩ := hcut
                            have HBC7 := Lib.hid hbc7; clear hbc7
                            by_cases hb0 : (pk T D (fun j => pre (fC fs j) (t + 1)) (stS T D (fC fs) fs.length t) i).1 < 0
                            · have HP := Lib.hid (pk_take (T := T) (D := D) (C := fun j => pre (fC fs j) (t + 1)) (S := stS T D (fC fs) fs.length t) (i := i) HS.out (.inl hb0))
                              go_wp2
                              go_roundg m
                              case measure => omega
                              case rel => exact ⟨hg7, i + 1, by omega, by go_num, HBC7.out, by rw [HP.out], by rw [HP.out]⟩
                            · by_cases hd0 : kd T (gi (D i) (stS T D (fC fs) fs.length t i)) < (pk T D (fun j => pre (fC fs j) (t + 1)) (stS T D (fC fs) fs.length t) i).2
                              · have HP := Lib.hid (pk_take (T := T) (D := D) (C := fun j => pre (fC fs j) (t + 1)) (S := stS T D (fC fs) fs.length t) (i := i) HS.out (.inr hd0))
                                go_wp2
                                go_roundg m
                                case measure => omega
                                case rel => exact ⟨hg7, i + 1, by omega, by go_num, HBC7.out, by rw [HP.out], by rw [HP.out]⟩
                              · have HP := Lib.hid (pk_keep (T := T) (D := D) (C := fun j => pre (fC fs j) (t + 1)) (S := stS T D (fC fs) fs.length t) (i := i) HS.out (fun h => by rcases h with h | h <;> omega))
                                go_wp2
                                go_roundg m
                                case measure => omega
                                case rel => exact ⟨hg7, i + 1, by omega, by go_num, HBC7.out, by rw [HP.out], by rw [HP.out]⟩
                    · have hiF : i = fs.length := by omega
                      subst hiF
                      have hltw := hrt.lts
                      have hnd := hrt.nd
                      have hr9 : RowsOf wr P Bp Bt Bc Bs fs.length (V fs.length) Vp V (fun j => pre (fC fs j) (t + 1)) (fun j => (stS T D (fC fs) fs.length t j : Int)) :=
                        ⟨heap_kept hrt.p hg (by simp [hnd.1.2.2.1]), rowIs_kept hrt.bp hg (by simp [hnd.2.1.2.1]), rowIs_kept hrt.bt hg (by simp [hnd.2.2.1.1]), hbc.congr (fun j hj => by rw [mixC_all hj]), rowIs_kept hrt.bs hg (fun e => hnd.2.2.2 (Option.some.inj e).symm), hnd⟩
                      have hfam9 := hfam.kept hg (fun k hk => by cases hk; omega)
                      have hfr9 := hfr.trans_grown hg (fun k hk => by cases hk; simp)
                      have hbest : (pk T D (fun j => pre (fC fs j) (t + 1)) (stS T D (fC fs) fs.length t) fs.length).1 = bestAt T D (fC fs) fs.length t := rfl
                      rw [hbest]
                      clear hbest hrt hfam hfr hg hbc hltw hnd hik
                      rename World => w9
                      have hk0 := (block3 hr9.p).1
                      have hsz9 := hfr9.size
                      have hownS := hfam9.1 fs.length (by omega)
                      have htl : tickL T D (fC fs) fs.length t fs.length = sentL T D (fC fs) fs.length t := if_pos rfl
                      rw [htl] at hownS
                      have hsl := sentL_length T D (fC fs) fs.length t
                      have HSL := Lib.hid hsl
                      have hblk9 : ∀ w', w9.grownBy w' (V fs.length).ownBlock → RowsOf w' P Bp Bt Bc Bs fs.length (V fs.length) Vp V (fun j => pre (fC fs j) (t + 1)) (fun j => (stS T D (fC fs) fs.length t j : Int)) := fun w' hg =>
                        hr9.kept hg (fun k hk => by have := (hownS.lt k hk).1; omega)
                      have HB9 := Lib.hid hblk9; have HR9 := Lib.hid hr9; have HF9 := Lib.hid hfam9; have HTL := Lib.hid htl
                      clear hblk9 hr9 hfam9 hsl htl
                      go_upto_if 144 with (at_builtin; refine wpList_append_fresh rfl _ _ 28 rfl w7.heap.size 3 (.int .i64 0) 1 8 Tryd.underlying28 infoInt rfl (by decide) _ _ _ rfl w9 hownS 1 [.int .i64 (bestAt T D (fC fs) fs.length t)] 0 rfl rfl rfl (by simp [Value.oneCell']) (by decide) (by rw [HSL.out]; omega) (by rw [HSL.out]; omega) hsz9 ?_; intro g cp w10 ho hgr hat hlt; have hr10 := Lib.hid (HB9.out w10 hgr); obtain ⟨k0, _, _, z0, _, _⟩ := block3 hr10.out.p)
                      have hPlt : P < w7.heap.size := by have := (Array.getElem?_eq_some_iff.1 HRW.out.p).1; omega
                      refine wp_forget (fun W => Fr w7 W P Bt Bc Bs ∧ ∃ V' : Nat → Value, RowsOf W P Bp Bt Bc Bs fs.length (V' fs.length) Vp V' (fun j => pre (fC fs j) (t + 1)) (fun j => (stS T D (fC fs) fs.length t j : Int)) ∧
                        Fam W 3 w7.heap.size (fs.length + 1) V' (fun i => if i = fs.length then sentL T D (fC fs) fs.length (t + 1) else thrL T D (fC fs) fs.length t i)) ?_ ?_
                      · have hs11 : w10.grownBy (w10.setCell ⟨P, 0, none⟩ (.slice (some ⟨g, 0, none⟩) ((sentL T D (fC fs) fs.length t).length + 1) cp)) (some P) := grownBy_setCell (grownBy_refl _ _) 0 _
                        refine ⟨(hfr9.trans_grown hgr (fun k hk => by have := (hownS.lt k hk).1; omega)).trans_grown hs11 (fun k hk => by cases hk; simp), upd V fs.length (.slice (some ⟨g, 0, none⟩) ((sentL T D (fC fs) fs.length t).length + 1) cp), ?_, ?_⟩
                        · rw [upd_at]
                          exact (hr10.out.setP _).congr (fun _ _ => rfl) (fun i hi => (upd_off (by omega)).symm) (fun _ _ => rfl) (fun _ _ => rfl)
                        · refine (((HF9.out.append (i := fs.length) (by omega) (owns_snoc ho) hgr (hat.imp id (fun h => by omega))).kept hs11 (fun k hk => by cases hk; exact hPlt))).congr (fun i _ => ?_)
                          by_cases hi : i = fs.length
                          · subst hi; rw [upd_at, if_pos rfl, sentL_succ]
                          · rw [upd_off hi, if_neg hi]; exact if_neg hi
                      · rintro W11 ⟨hfr11, V', hr11, hfam11⟩
                        clear ho hgr hat hlt hr10 k0 z0 HB9 HR9 HF9 HTL hownS hk0 hfr9
                        rcases pk_range T D (fun j => pre (fC fs j) (t + 1)) (stS T D (fC fs) fs.length t) fs.length with hb1 | ⟨j, hjF, hb1, hSj⟩
                        · -- nobody's
                          have hbm : bestAt T D (fC fs) fs.length t = -1 := hb1
                          have hneg : bestAt T D (fC fs) fs.length t < 0 := by omega
                          have HBM := Lib.hid hbm; clear hb1 hbm
                          go_wp2
                          go_roundg n
                          case measure => omega
                          case rel =>
                            refine ⟨hfr11, t + 1, V', by omega, by go_num, hr11.congr (fun _ _ => rfl) (fun _ _ => rfl) (fun _ _ => rfl) (fun i hi => ?_), hfam11.congr (fun i hi => ?_)⟩
                            · rw [stS_succ, HBM.out, if_neg (by omega)]; simp
                            · unfold tickL
                              by_cases hiF : i = fs.length
                              · rw [if_pos hiF, if_pos hiF]
                              · rw [if_neg hiF, if_neg hiF, thrL_off (by rw [HBM.out]; omega)]
                        · have hbm : bestAt T D (fC fs) fs.length t = (j : Int) := hb1
                          have HBM := Lib.hid hbm
                          rw [hbm]
                          clear hb1 hbm
                          have hb35 := hr11.bs.cell hjF
                          have hz35 := hr11.bs.frozen j
                          have hSb := stS_bd (T := T) (D := D) HCO.out t j hjF
                          have hcnj := HCN.out j hjF
                          go_upto_region 36 with fail
                          refine wp_forget (fun W => Fr w7 W P Bt Bc Bs ∧ RowsOf W P Bp Bt Bc Bs fs.length (V' fs.length) Vp V' (fun j => pre (fC fs j) (t + 1)) (fun j => (stS T D (fC fs) fs.length (t + 1) j : Int)) ∧
                            Fam W 3 w7.heap.size (fs.length + 1) V' (fun i => if i = fs.length then sentL T D (fC fs) fs.length (t + 1) else thrL T D (fC fs) fs.length t i)) ?_ ?_
                          · have hs12 : W11.grownBy (W11.setCell ⟨Bs, j, none⟩ (.int .i64 ((stS T D (fC fs) fs.length t j : Int) + 1))) (some Bs) := grownBy_setCell (grownBy_refl _ _) j _
                            refine ⟨hfr11.trans_grown hs12 (fun k hk => by cases hk; simp), (hr11.setBs j _).congr (fun _ _ => rfl) (fun _ _ => rfl) (fun _ _ => rfl) (fun i hi => ?_), hfam11.kept hs12 (fun k hk => by cases hk; have := HRW.out.lts; omega)⟩
                            by_cases hij : i = j
                            · subst hij; rw [upd_at, stS_succ, HBM.out, if_pos rfl]; omega
                            · rw [upd_off hij, stS_succ, HBM.out, if_neg (by omega)]; simp
                          · clear hb35 hz35 hr11 hfam11 hfr11
                            rintro W12 ⟨hfr12, hr12, hfam12⟩
                            have hown := hfam12.1 j (by omega)
                            simp only [if_neg (show ¬ j = fs.length by omega)] at hown
                            have hsz12 := hfr12.size
                            have hblk12 : ∀ w', W12.grownBy w' (V' j).ownBlock → RowsOf w' P Bp Bt Bc Bs fs.length (V' fs.length) Vp V' (fun j => pre (fC fs j) (t + 1)) (fun j => (stS T D (fC fs) fs.length (t + 1) j : Int)) := fun w' hg =>
                              hr12.kept hg (fun k hk => by have := (hown.lt k hk).1; have := HRW.out.lts; omega)
                            have hc2 := (block3 hr12.p).2.2.1
                            have hcj := hr12.bt.cell hjF
                            have hzj := hr12.bt.frozen j
                            have hrA := hr12.grown (World.grownBy_alloc W12 (.cells #[.int .i64 ((t : Int) + 1)] 3) none)
                            have hc2A := (block3 hrA.p).2.2.1
                            have hcjA := hrA.bt.cell hjF
                            clear hrA
                            have hthl := thrL_length T D (fC fs) fs.length j t
                            have hw36 := IntWalk.i64_in ((t : Int) + 1) (by omega)
                            have HB12 := Lib.hid hblk12; have HR12 := Lib.hid hr12; have HF12 := Lib.hid hfam12; have HTH := Lib.hid hthl
                            clear hblk12 hr12 hfam12 hthl
                            go_region_law (refine step_append_fresh rfl _ _ 28 rfl w7.heap.size 3 (.int .i64 0) 1 8 Tryd.underlying28 infoInt rfl (by decide) _ _ _ rfl W12 hown 1 [.int .i64 ((t : Int) + 1)] 1 rfl rfl rfl (by simp [Value.oneCell']) (by decide) (by rw [HTH.out]; omega) (by rw [HTH.out]; omega) hsz12 ?_; intro g cp w13 ho hgr hat hlt; have hr13 := Lib.hid (HB12.out w13 hgr); have c2 := (block3 hr13.out.p).2.2.1; have cj := hr13.out.bt.cell hjF; have zj := hr13.out.bt.frozen j)
                            all_goals as_aux_lemma =>
                              go_wp2
                              go_roundg n
                              case measure => omega
                              case rel =>
                                obtain ⟨u1, u2, u3⟩ := thr_step hfr12 hr13.out HF12.out hjF (owns_snoc ho) hgr (hat.imp id (fun h => by omega)) (by have := HRW.out.lts; omega)
                                refine ⟨u1, t + 1, _, by omega, by go_num, u2, u3.congr (fun i hi => ?_)⟩
                                unfold tickL
                                by_cases hij : i = j
                                · subst hij; rw [upd_at, if_neg (by omega), thrL_at HBM.out]
                                · rw [upd_off hij]
                                  by_cases hiF : i = fs.length
                                  · rw [if_pos hiF, if_pos hiF]
                                  · rw [if_neg hiF, if_neg hiF, thrL_off (by rw [HBM.out]; omega)]
                · have htT : t = T := by omega
                  subst htT
                  have hlen0 : ∀ j, j < fs.length → (thrL t D (fC fs) fs.length t j).length ≤ (D j).length := fun j hj => by
                    rw [thrL_length, HDL.out j hj]; exact stS_bd HCO.out t j hj
                  have HLEN := Lib.hid hlen0; clear hlen0
                  have hBlt := HRW.out.lts
                  rename World => w14
                  go_wp2_with fail
                  -- what has not gone
                  go_loopg [167] fs.length (fun g i W => Fr w7 W P Bt Bc Bs ∧ ∃ (k : Nat) (V : Nat → Value), k + g = fs.length ∧ i = .int .i64 k ∧
                    RowsOf W P Bp Bt Bc Bs fs.length (V fs.length) Vp V (fun j => pre (fC fs j) t) (fun j => (stS t D (fC fs) fs.length t j : Int)) ∧ Fam W 3 w7.heap.size (fs.length + 1) V (padK t D (fC fs) fs.length k))
                  case atStart => exact ⟨hfr, 0, V, by omega, rfl, hrt, hfam.congr (fun i _ => by rw [padK_zero])⟩
                  case round =>
                    clear hfr hrt hfam
                    obtain ⟨hfr, k, V2, hkk, rfl, hrt, hfam⟩ := hrel
                    by_cases hltk : k < fs.length
                    ·
                      as_aux_lemma =>
                      obtain ⟨n, rfl⟩ : ∃ n, gk = n + 1 := ⟨gk - 1, by omega⟩
                      rename World => w15
                      go_wp2_with fail
                      go_loopg [] ((D k).length - (thrL t D (fC fs) fs.length t k).length) (fun g W => Fr w7 W P Bt Bc Bs ∧ ∃ (V : Nat → Value) (l : List Int), l.length + g = (D k).length ∧ padM l (D k).length = padM (thrL t D (fC fs) fs.length t k) (D k).length ∧
                        RowsOf W P Bp Bt Bc Bs fs.length (V fs.length) Vp V (fun j => pre (fC fs j) t) (fun j => (stS t D (fC fs) fs.length t j : Int)) ∧ Fam W 3 w7.heap.size (fs.length + 1) V (upd (padK t D (fC fs) fs.length k) k l))
                      case atStart =>
                        refine ⟨hfr, V2, thrL t D (fC fs) fs.length t k, by have := HLEN.out k hltk; omega, rfl, hrt, hfam.congr (fun i _ => ?_)⟩
                        by_cases hik : i = k
                        · subst hik; rw [upd_at, padK_at (by omega)]
                        · rw [upd_off hik]
                      case round =>
                        clear hfr hrt hfam
                        obtain ⟨hfr, V3, l, hlk, hpad, hrt, hfam⟩ := hrel
                        have hown := hfam.1 k (by omega)
                        rw [upd_at] at hown
                        obtain ⟨aV, cV, hv3⟩ := owns_slice hown
                        have hvk := HVD.out k hltk
                        have hvkI : Ints wr (Vp k) (D k) := hfr.ints hvk.1 (fun b hb => by have := hvk.2 b hb; omega)
                        obtain ⟨aD, cD, hvD, hlD, _⟩ := hvkI
                        have hbp := hrt.bp.cell hltk
                        rw [hvD] at hbp
                        have hbt := hrt.bt.cell hltk
                        have hbt2 := hbt
                        rw [hv3] at hbt
                        obtain ⟨_, hp1, hp2, _, _, _⟩ := block3 hrt.p
                        have hzt := hrt.bt.frozen k
                        have hDk := HDL.out k hltk
                        have hcnk := HCN.out k hltk
                        have HPAD := Lib.hid hpad; have HRT := Lib.hid hrt; have HFAM := Lib.hid hfam; have HV3 := Lib.hid hv3; have HDK := Lib.hid hDk
                        have hll : (l.length : Int) ≤ 300000000 := by omega
                        clear hpad hrt hfam hvD hvk hv3 hDk hbt2
                        go_wp2
                        go_quiet (fail)
                        by_cases hll2 : l.length < (D k).length
                        · obtain ⟨m, rfl⟩ : ∃ m, gk = m + 1 := ⟨gk - 1, by omega⟩
                          go_wp2_with fail
                          refine wp_forget (fun W => Fr w7 W P Bt Bc Bs ∧ RowsOf W P Bp Bt Bc Bs fs.length (V3 fs.length) Vp V3 (fun j => pre (fC fs j) t) (fun j => (stS t D (fC fs) fs.length t j : Int)) ∧ Fam W 3 w7.heap.size (fs.length + 1) V3 (upd (padK t D (fC fs) fs.length k) k l)) ⟨⟨hfr.os, hfr.tape, hfr.output, hfr.size, hfr.block⟩, HRT.out.grown (grownBy_drewN (grownBy_refl _ _) _), HFAM.out.kept (row := none) (grownBy_drewN (grownBy_refl _ _) _) (fun k hk => by cases hk)⟩ ?_
                          clear hbp hbt hp1 hp2 hzt hown hfr
                          rintro W16 ⟨hfr16, hr16, hfam16⟩
                          have hown := hfam16.1 k (by omega)
                          rw [upd_at] at hown
                          have hsz16 := hfr16.size
                          have hblk16 : ∀ w', W16.grownBy w' (V3 k).ownBlock → RowsOf w' P Bp Bt Bc Bs fs.length (V3 fs.length) Vp V3 (fun j => pre (fC fs j) t) (fun j => (stS t D (fC fs) fs.length t j : Int)) := fun w' hg =>
                            hr16.kept hg (fun k hk => by have := (hown.lt k hk).1; omega)
                          have hc2 := (block3 hr16.p).2.2.1
                          have hcj := hr16.bt.cell hltk
                          have hzj := hr16.bt.frozen k
                          have hrA := hr16.grown (World.grownBy_alloc W16 (.cells #[.int .i64 (-1)] 3) none)
                          have hc2A := (block3 hrA.p).2.2.1
                          have hcjA := hrA.bt.cell hltk
                          have HB16 := Lib.hid hblk16; have HF16 := Lib.hid hfam16
                          clear hrA hblk16 hr16 hfam16
                          go_region_law (refine step_append_fresh rfl _ _ 28 rfl w7.heap.size 3 (.int .i64 0) 1 8 Tryd.underlying28 infoInt rfl (by decide) _ _ _ rfl W16 hown 1 [.int .i64 (-1)] 1 rfl rfl rfl (by simp [Value.oneCell']) (by decide) (by omega) (by omega) hsz16 ?_; intro g cp w17 ho hgr hat hlt; have hr17 := Lib.hid (HB16.out w17 hgr); have c2 := (block3 hr17.out.p).2.2.1; have cj := hr17.out.bt.cell hltk; have zj := hr17.out.bt.frozen k)
                          all_goals as_aux_lemma =>
                            go_wp2
                            go_roundg m
                            case measure => omega
                            case rel =>
                              obtain ⟨u1, u2, u3⟩ := thr_step hfr16 hr17.out HF16.out hltk (owns_snoc ho) hgr (hat.imp id (fun h => by omega)) (by omega)
                              refine ⟨u1, _, l ++ [-1], by simp; omega, by rw [padM_step hll2]; exact HPAD.out, u2, u3.congr (fun i hi => ?_)⟩
                              by_cases hik : i = k
                              · subst hik; rw [upd_at, upd_at]
                              · rw [upd_off hik, upd_off hik, upd_off hik]
                        · go_wp2
                          go_roundg n
                          case measure => omega
                          case rel =>
                            refine ⟨⟨hfr.os, hfr.tape, hfr.output, hfr.size, hfr.block⟩, k + 1, V3, by omega, by go_num, HRT.out.grown (grownBy_drewN (grownBy_refl _ _) _), (HFAM.out.kept (row := none) (grownBy_drewN (grownBy_refl _ _) _) (fun k hk => by cases hk)).congr (fun i hi => ?_)⟩
                            by_cases hik : i = k
                            · subst hik; rw [upd_at, padK_next hltk, ← HPAD.out, padM_full (by omega)]
                            · rw [upd_off hik, padK_off hik]
                    · have hkF : k = fs.length := by omega
                      subst hkF
                      have hRlt : w.heap.size < w2.heap.size := hlr
                      have hR := below_heap hb HR.out hRlt
                      have hR2 := (hfr.block w.heap.size (by have := hb.size; omega) (by omega) (by omega) (by omega) (by omega)).trans hR
                      have hownS := hfam.1 fs.length (by omega)
                      have hpF : padK t D (fC fs) fs.length fs.length fs.length = sentL t D (fC fs) fs.length t := if_pos rfl
                      rw [hpF] at hownS
                      obtain ⟨aS, cS, hvS⟩ := owns_slice hownS
                      have hrt' := hrt
                      rw [hvS] at hrt'
                      obtain ⟨p0, p1, p2, _, _, _⟩ := block3 hrt'.p
                      obtain ⟨r0, r1, r2, z0, z1, z2⟩ := block3 hR2
                      have hnR : w.heap.size ≠ P := by omega
                      rename World => w18
                      have hfin : MakeP w (sentOf fs t) (promOf fs t) (thrOf fs t) (.returned (.tuple #[.agg #[.slice aS (sentL t D (fC fs) fs.length t).length cS, .slice (some ⟨Bp, 0, none⟩) fs.length fs.length, .slice (some ⟨Bt, 0, none⟩) fs.length fs.length], .nilIface]))
                          (((w18.setCell ⟨w.heap.size, 0, none⟩ (.slice aS (sentL t D (fC fs) fs.length t).length cS)).setCell ⟨w.heap.size, 1, none⟩ (.slice (some ⟨Bp, 0, none⟩) fs.length fs.length)).setCell ⟨w.heap.size, 2, none⟩ (.slice (some ⟨Bt, 0, none⟩) fs.length fs.length)) := by
                        have hg : w18.grownBy (((w18.setCell ⟨w.heap.size, 0, none⟩ (.slice aS (sentL t D (fC fs) fs.length t).length cS)).setCell ⟨w.heap.size, 1, none⟩ (.slice (some ⟨Bp, 0, none⟩) fs.length fs.length)).setCell ⟨w.heap.size, 2, none⟩ (.slice (some ⟨Bt, 0, none⟩) fs.length fs.length)) (some w.heap.size) :=
                          grownBy_setCell (grownBy_setCell (grownBy_setCell (grownBy_refl _ _) 0 _) 1 _) 2 _
                        have hDe := HDD.out
                        subst hDe
                        refine ⟨_, _, _, rfl, ?_, ?_, ?_, ?_⟩
                        · have := Ints.own hownS
                          rw [hvS] at this
                          exact this.kept hg (fun b hb e => by have := (hownS.lt b (by rw [hvS]; exact hb)).1; cases e; omega)
                        · refine Lists.rows (rowIs_kept hrt.bp hg (by simp; omega)) hl (fun i hi => ?_)
                          have hv := HVD.out i hi
                          exact (hfr.ints hv.1 (fun b hb => by have := hv.2 b hb; omega)).kept hg (fun b hb e => by have := hv.2 b hb; cases e; omega)
                        · refine Lists.rows (rowIs_kept hrt.bt hg (by simp; omega)) hl (fun i hi => ?_)
                          have ho := hfam.1 i (by omega)
                          have hpi : padK t (promF fs t) (fC fs) fs.length fs.length i = padM (thrL t (promF fs t) (fC fs) fs.length t i) (promF fs t i).length := by rw [padK, if_neg (by omega), if_pos hi]
                          rw [hpi] at ho
                          exact (Ints.own ho).kept hg (fun b hb e => by have := (ho.lt b hb).1; cases e; omega)
                        · exact (((hbr.trans ((hb.trans (hfr.below (by have := hb.size; omega) (by omega) (by omega) (by omega) (by omega))).mono (by omega))).setCell (Nat.le_refl _) _).setCell (Nat.le_refl _) _).setCell (Nat.le_refl _) _
                      have hS := Lib.hid (block3_set (x' := .slice aS (sentL t D (fC fs) fs.length t).length cS) (y' := .slice (some ⟨Bp, 0, none⟩) fs.length fs.length) (z' := .slice (some ⟨Bt, 0, none⟩) fs.length fs.length) hR2)
                      have HFIN := Lib.hid hfin
                      clear hfin hrt hrt' hfam hR hR2 hownS hpF hvS
                      go_wp2
                      obtain ⟨s0, s1, s2, _, _, _⟩ := block3 hS.out
                      refine bodyPost_ret (v := .tuple #[.agg #[.slice aS (sentL t D (fC fs) fs.length t).length cS, .slice (some ⟨Bp, 0, none⟩) fs.length fs.length, .slice (some ⟨Bt, 0, none⟩) fs.length fs.length], .nilIface]) (by simp [results, Tryd.results7, go_sem, s0, s1, s2]) rfl HFIN.out
end Go.Proofs.YtmljdgedndbipaaDoor
