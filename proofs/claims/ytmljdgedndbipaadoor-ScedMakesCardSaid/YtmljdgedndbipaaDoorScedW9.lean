/-
  What is proved here: the reference's Make (10.2): its cells as pointers, whose is sent, and when they are through.
-/
import Derived.Test.YtmljdgedndbipaaDoorScedRows
import Derived.Test.YtmljdgedndbipaaDoorLate
import Derived.Test.YtmljdgedndbipaaDoorScedLast
import Derived.Test.YtmljdgedndbipaaDoorScedW3
import Derived.Deep.DeepCutAuto
import Derived.Deep.RegionHeldLaw
import Derived.LaidEqlPtr
import Derived.Deep.RegionWith
namespace Go.Proofs.YtmljdgedndbipaaDoor
open Go.RowKit

theorem infoIntsR : (Tryd.prog.info? 28).map (fun i => (i.zero, i.size, i.bytes)) = some (some (.slice none 0 0), 1, 24) := by kernel_rfl
theorem infoCell : (Tryd.prog.info? 52).map (fun i => (i.zero, i.size, i.bytes)) = some (some (.pointer none), 1, 8) := by kernel_rfl

/-- A cell as it lies in memory. -/
def cellObj (fl at_ : Nat) (due thr : Int) : Obj := .cells #[.int .i64 fl, .int .i64 at_, .int .i64 due, .int .i64 thr] 54 (0, 0)
def ptrs (b : Nat → Nat) (n : Nat) : List Value := (List.range n).map fun c => .pointer (some ⟨b c, 0, none⟩)
theorem ptrs_succ (b : Nat → Nat) (n : Nat) : ptrs b (n + 1) = ptrs b n ++ [.pointer (some ⟨b n, 0, none⟩)] := by simp [ptrs, List.range_succ]
theorem ptrs_congr {b b' : Nat → Nat} {n : Nat} (h : ∀ c, c < n → b c = b' c) : ptrs b n = ptrs b' n := by
  unfold ptrs; exact List.map_congr_left fun c hc => by rw [h c (List.mem_range.1 hc)]

/-- The row of n cells. -/
structure CellsAt (W : World) (B0 : Nat) (vC : Value) (n : Nat) (b fl at_ : Nat → Nat) (due thr : Nat → Int) : Prop where
  own : W.ownsRow B0 52 1 vC n (ptrs b n)
  cell : ∀ c, c < n → W.heap[b c]? = some (cellObj (fl c) (at_ c) (due c) (thr c))
  ord : ∀ c d, c < d → d < n → b c < b d
  lo : ∀ c, c < n → B0 ≤ b c
  sep : ∀ c, c < n → vC.ownBlock ≠ some (b c)
namespace CellsAt
variable {W W' : World} {B0 : Nat} {vC : Value} {n : Nat} {b fl at_ : Nat → Nat} {due thr : Nat → Int}
theorem kept {row : Option Nat} (h : CellsAt W B0 vC n b fl at_ due thr) (hg : W.grownBy W' row) (h1 : ∀ k, row = some k → vC.ownBlock ≠ some k ∧ ∀ c, c < n → k ≠ b c) : CellsAt W' B0 vC n b fl at_ due thr := by
  refine ⟨h.own.kept hg ?_, fun c hc => heap_kept (h.cell c hc) hg (fun e => (h1 (b c) e.symm).2 c hc rfl), h.ord, h.lo, h.sep⟩
  cases row with
  | none => cases hv : vC.ownBlock <;> simp
  | some k => exact .inr (h1 k rfl).1
theorem grown (h : CellsAt W B0 vC n b fl at_ due thr) (hg : W.grownBy W' none) : CellsAt W' B0 vC n b fl at_ due thr := h.kept hg (fun k hk => by cases hk)
theorem lt (h : CellsAt W B0 vC n b fl at_ due thr) {c : Nat} (hc : c < n) : b c < W.heap.size := (Array.getElem?_eq_some_iff.1 (h.cell c hc)).1
theorem inj (h : CellsAt W B0 vC n b fl at_ due thr) {c d : Nat} (hc : c < n) (hd : d < n) : b c = b d ↔ c = d := by
  constructor
  · intro e
    rcases Nat.lt_trichotomy c d with h1 | h1 | h1
    · have := h.ord c d h1 hd; omega
    · exact h1
    · have := h.ord d c h1 hc; omega
  · rintro rfl; rfl
/-- One cell more. -/
theorem add (h : CellsAt W B0 vC n b fl at_ due thr) {bn g m cap : Nat} (hbn : W.heap[bn]? = some (cellObj (fl n) (at_ n) (due n) (thr n))) (hlo : B0 ≤ bn) (hnew : ∀ c, c < n → b c < bn) (hsep : vC.ownBlock ≠ some bn)
    (hg : W.grownBy W' vC.ownBlock) (ho : W'.ownsRow B0 52 1 (.slice (some ⟨g, 0, none⟩) m cap) m (ptrs b n ++ [.pointer (some ⟨bn, 0, none⟩)])) (hm : m = n + 1) (hat : vC.ownBlock = some g ∨ W.heap.size ≤ g) :
    CellsAt W' B0 (.slice (some ⟨g, 0, none⟩) m cap) (n + 1) (upd b n bn) fl at_ due thr := by
  subst hm
  have hne : ∀ c, c < n → b c ≠ g := fun c hc e => by
    rcases hat with h1 | h1
    · exact h.sep c hc (by rw [h1, e])
    · have := h.lt hc; omega
  have hnb : bn ≠ g := fun e => by
    rcases hat with h1 | h1
    · exact hsep (by rw [h1, e])
    · have := (Array.getElem?_eq_some_iff.1 hbn).1; omega
  refine ⟨by rw [ptrs_succ, upd_at, ptrs_congr (fun c hc => upd_off (by omega))]; exact ho, fun c hc => ?_, fun c d hcd hd => ?_, fun c hc => ?_, fun c hc => ?_⟩
  · by_cases e : c = n
    · subst e; rw [upd_at]; exact heap_kept hbn hg (fun e => hsep e.symm)
    · rw [upd_off e]; exact heap_kept (h.cell c (by omega)) hg (fun e' => h.sep c (by omega) e'.symm)
  · by_cases e : d = n
    · subst e; rw [upd_at, upd_off (by omega)]; exact hnew c hcd
    · rw [upd_off e, upd_off (by omega)]; exact h.ord c d hcd (by omega)
  · by_cases e : c = n
    · subst e; rw [upd_at]; exact hlo
    · rw [upd_off e]; exact h.lo c (by omega)
  · intro e
    have hgb : g = upd b n bn c := by simpa [Value.ownBlock] using e
    by_cases e2 : c = n
    · subst e2; rw [upd_at] at hgb; exact hnb hgb.symm
    · rw [upd_off e2] at hgb; exact hne c (by omega) hgb.symm
/-- One cell is through. -/
theorem setThr (h : CellsAt W B0 vC n b fl at_ due thr) {c : Nat} (hc : c < n) (x : Int) : CellsAt (W.setCell ⟨b c, 3, none⟩ (.int .i64 x)) B0 vC n b fl at_ due (upd thr c x) := by
  have hg : W.grownBy (W.setCell ⟨b c, 3, none⟩ (.int .i64 x)) (some (b c)) := grownBy_setCell (grownBy_refl _ _) 3 _
  refine ⟨h.own.kept hg (.inr (h.sep c hc)), fun d hd => ?_, h.ord, h.lo, h.sep⟩
  by_cases e : d = c
  · subst e
    rw [upd_at]
    simp [World.setCell, Array.getElem?_modify, h.cell d hd, cellObj]
  · rw [upd_off e]
    exact heap_kept (h.cell d hd) hg (fun e' => e ((h.inj hd hc).1 (Option.some.inj e')))
end CellsAt
theorem CellsAt.congr {W : World} {B0 : Nat} {vC : Value} {n : Nat} {b fl at_ : Nat → Nat} {due thr thr' : Nat → Int} (h : CellsAt W B0 vC n b fl at_ due thr) (e : ∀ c, c < n → thr c = thr' c) : CellsAt W B0 vC n b fl at_ due thr' :=
  ⟨h.own, fun c hc => by rw [← e c hc]; exact h.cell c hc, h.ord, h.lo, h.sep⟩
theorem CellsAt.below' {W W' : World} {B0 : Nat} {vC : Value} {n : Nat} {b fl at_ : Nat → Nat} {due thr : Nat → Int} (h : CellsAt W B0 vC n b fl at_ due thr) (hb : Below W.heap.size W W') : CellsAt W' B0 vC n b fl at_ due thr :=
  h.grown ⟨hb.os, hb.tape, hb.output, hb.size, fun k hk _ => hb.block k hk⟩
theorem owns_below {W W' : World} {base : Nat} {e : TypeId} {size n : Nat} {v : Value} {xs : List Value} (h : W.ownsRow base e size v n xs) (hb : Below W.heap.size W W') : W'.ownsRow base e size v n xs :=
  h.kept (row := .none) ⟨hb.os, hb.tape, hb.output, hb.size, fun k hk _ => hb.block k hk⟩ (by cases hv : v.ownBlock <;> simp)
theorem CellsAt.empty (W : World) (B0 : Nat) (b fl at_ : Nat → Nat) (due thr : Nat → Int) : CellsAt W B0 (.slice none 0 0) 0 b fl at_ due thr :=
  ⟨World.ownsRow_nil W B0 _ 1, fun c hc => by omega, fun c d h1 h2 => by omega, fun c hc => by omega, fun c hc => by omega⟩
/-- what a cell's block holds, cell by cell -/
theorem cellObj_cells {W : World} {b fl at_ : Nat} {due thr : Int} (h : W.heap[b]? = some (cellObj fl at_ due thr)) :
    W.cell? ⟨b, 0, none⟩ = some (.int .i64 fl) ∧ W.cell? ⟨b, 1, none⟩ = some (.int .i64 at_) ∧ W.cell? ⟨b, 2, none⟩ = some (.int .i64 due) ∧ W.cell? ⟨b, 3, none⟩ = some (.int .i64 thr) ∧ W.frozen? ⟨b, 2, none⟩ = false ∧ W.frozen? ⟨b, 3, none⟩ = false := by
  refine ⟨?_, ?_, ?_, ?_, ?_, ?_⟩ <;> simp [World.cell?, World.frozen?, h, cellObj]

/-- A box of two cells, a row made behind it, and cells copied into that row. -/
theorem box_then_copy {w w2 : World} {x y : Value} {t t2 : TypeId} {mc : Array Value} (hg : ((w.alloc (.cells #[x, y] t)).alloc (.cells mc t2)).grownBy w2 (some (w.heap.size + 1))) :
    w.grownBy w2 none ∧ w.heap.size + 1 < w2.heap.size ∧ w2.cell? ⟨w.heap.size, 0, none⟩ = some x ∧ w2.cell? ⟨w.heap.size, 1, none⟩ = some y := by
  have hsz : w.heap.size + 1 + 1 ≤ w2.heap.size := by have := hg.size; rw [size_alloc, size_alloc] at this; exact this
  refine ⟨⟨hg.os, hg.tape, hg.output, by omega, fun k hk _ => ?_⟩, by omega, ?_, ?_⟩
  · rw [hg.block k (by rw [size_alloc, size_alloc]; omega) (by simp; omega), Below.heap_alloc _ _ _ (by rw [size_alloc]; omega), Below.heap_alloc _ _ _ hk]
  · refine hg.cell (a := ⟨w.heap.size, 0, none⟩) ?_ (by simp)
    rw [World.cell?_alloc_lt _ _ ⟨w.heap.size, 0, none⟩ (by simp)]; simp
  · refine hg.cell (a := ⟨w.heap.size, 1, none⟩) ?_ (by simp)
    rw [World.cell?_alloc_lt _ _ ⟨w.heap.size, 1, none⟩ (by simp)]; simp

theorem grownBy_step {a b c : World} {r0 r1 : Option Nat} (h : a.grownBy b r0) (k : b.grownBy c r1) (hr : ∀ x, r1 = some x → r0 = some x ∨ a.heap.size ≤ x) : a.grownBy c r0 :=
  ⟨k.os.trans h.os, k.tape.trans h.tape, k.output.trans h.output, Nat.le_trans h.size k.size, fun i hi hne => by
    rw [k.block i (Nat.lt_of_lt_of_le hi h.size) (fun e => by
      rcases hr i e.symm with h1 | h1
      · exact hne h1.symm
      · omega)]
    exact h.block i hi hne⟩
theorem int_eq {k : IntKind} {a b : Int} (h : a = b) : Value.int k a = Value.int k b := by rw [h]

theorem owns_slice' {W : World} {base : Nat} {e : TypeId} {size n : Nat} {v : Value} {xs : List Value} (h : W.ownsRow base e size v n xs) : ∃ a cap, v = .slice a n cap := by
  rcases h.2 with ⟨h1, h2⟩ | ⟨g, cap, _, h1, _⟩
  · exact ⟨none, 0, by rw [h1, h2]⟩
  · exact ⟨_, cap, h1⟩

theorem infoCellT : (Tryd.prog.info? 54).map (·.size) = some 4 := by kernel_rfl
theorem cell_ne {W : World} {b c f1 a1 f2 a2 : Nat} {d1 t1 d2 t2 : Int} (hne : ¬ b = c) (h1 : W.heap[b]? = some (cellObj f1 a1 d1 t1)) (h2 : W.heap[c]? = some (cellObj f2 a2 d2 t2)) :
    (Go.binOp .eql 52 (.pointer (some ⟨b, 0, none⟩)) (.pointer (some ⟨c, 0, none⟩))).run Tryd.prog W = .ok (.bool false) W := by
  obtain ⟨j, hj, hs⟩ := Option.map_eq_some_iff.1 infoCellT
  exact run_eql_ptr_other W Tryd.underlying52 hj (by rw [hs]; decide) (fun e => hne (by cases e; rfl)) h1 h2
theorem cell_same (W : World) (b : Nat) : (Go.binOp .eql 52 (.pointer (some ⟨b, 0, none⟩)) (.pointer (some ⟨b, 0, none⟩))).run Tryd.prog W = .ok (.bool true) W := by
  obtain ⟨j, hj, _⟩ := Option.map_eq_some_iff.1 infoCellT
  exact run_eql_ptr_same W _ Tryd.underlying52 hj
/-- A cell's key. -/
theorem key_any (b T : Nat) (due : Int) (w : World) (hc : w.cell? ⟨b, 2, none⟩ = some (.int .i64 due)) (hT : T ≤ 200) :
    Calls Tryd.prog 14 #[.pointer (some ⟨b, 0, none⟩), .int .i64 T] w fun e w' => e = .returned (.int .i64 (kd T due)) ∧ w = w' := by
  by_cases h : due < 0
  · rw [kd_neg h]
    go_enter Tryd.func14, Tryd.ntmps14
    go_wp2
    go_ret
    exact ⟨rfl, rfl⟩
  · rw [kd_pos h]
    go_enter Tryd.func14, Tryd.ntmps14
    go_wp2
    go_ret
    exact ⟨rfl, rfl⟩
/-- The best so far, as a pointer. -/
def bestV (b : Nat → Nat) (r : Int) : Value := if r < 0 then .pointer none else .pointer (some ⟨b r.toNat, 0, none⟩)
theorem bestV_neg {b : Nat → Nat} {r : Int} (h : r < 0) : bestV b r = .pointer none := if_pos h
theorem bestV_pos {b : Nat → Nat} {r : Int} (h : ¬ r < 0) : bestV b r = .pointer (some ⟨b r.toNat, 0, none⟩) := if_neg h
theorem CellsAt.elem {W : World} {B0 : Nat} {cC : Option Addr} {m capC n : Nat} {b fl at_ : Nat → Nat} {due thr : Nat → Int} (h : CellsAt W B0 (.slice cC m capC) n b fl at_ due thr) {c : Nat} (hc : c < n) :
    ∃ g, cC = some ⟨g, 0, none⟩ ∧ g < W.heap.size ∧ ∀ c, c < n → W.cell? ⟨g, c, none⟩ = some (.pointer (some ⟨b c, 0, none⟩)) := by
  obtain ⟨hl, h2⟩ := h.own
  rcases h2 with ⟨_, h0⟩ | ⟨g, cap, cur, hv, hb, hg, hn, hm, hs, ht⟩
  · omega
  · cases hv
    refine ⟨g, rfl, (Array.getElem?_eq_some_iff.1 hg).1, fun c hc => ?_⟩
    rw [cell_of_row _ g c cur _ (0, 0) hg]
    have h3 : (ptrs b m)[c]? = some (.pointer (some ⟨b c, 0, none⟩)) := by simp [ptrs, hc]
    rw [← ht, List.getElem?_take, if_pos (by omega)] at h3
    simpa using h3

def RefP (w : World) (sent : List Int) (prom thr : List (List Int)) (e : Ending) (w' : World) : Prop :=
  ∃ vS vP vT, e = .returned (.tuple #[vS, vP, vT]) ∧ Ints w' vS sent ∧ Lists w' vP prom ∧ Lists w' vT thr ∧ Below w.heap.size w w'

set_option maxHeartbeats 4000000 in
set_option maxRecDepth 100000 in
theorem ScedMake_any (v : Value) (fs : Fl) (T : Nat) (w : World) (h : Flows w v fs) (hn : makeChk fs T = 0) :
    Calls Tryd.prog 6 #[v, .int .i64 T] w (RefP w (sentOf fs T) (promOf fs T) (thrOf fs T)) := by
  have hs : scedChk fs = 0 := by
    by_cases hs : scedChk fs = 0
    · exact hs
    · rw [makeChk_bad hs] at hn; exact absurd hn hs
  rw [makeChk_ok hs] at hn
  have hrg := rangeGo_zero fs T fs.length 0 (by omega) hn
  obtain ⟨hl1, hl2, hok⟩ := scedChk_zero hs
  have hT : T ≤ 200 := by
    have h1 := (hrg 0 (by omega) (by omega)).2
    have h2 := (Curve.of (hok 0 (by omega)).1).2.1
    omega
  have hcome : ∀ j, j < fs.length → Come (fC fs j) := fun j hj => (hok j hj).come
  have HF := Lib.hid h
  obtain ⟨a, cap, rfl, hl, _⟩ := h
  have HRG := Lib.hid hrg; have HOK := Lib.hid hok; have HCO := Lib.hid hcome
  have hmkI := run_make_row' (P := Tryd.prog) 28 3 (.int .i64 0) 8 Tryd.underlying28 infoInt rfl .i64 .i64 (T + 1) (by omega) (by omega)
  rw [show ((T + 1 : Nat) : Int) = (T : Int) + 1 by omega] at hmkI
  have HMI := Lib.hid hmkI
  clear hmkI hn hs hok hrg hcome
  go_enter Tryd.func6, Tryd.ntmps6
  go_wp2_with fail
  -- the cells
  go_loopg [7, 32] fs.length (fun g vC i W => Below w.heap.size w W ∧ ∃ (i' : Nat) (b : Nat → Nat), i' + g = fs.length ∧ i = .int .i64 i' ∧
    CellsAt W w.heap.size vC (baseN (fC fs) i') b (flAt (fC fs) fs.length) (atV (fC fs) fs.length) (dueV (promF fs T) (fC fs) fs.length) (fun _ => -1))
  case atStart => exact ⟨Below.refl _ _, 0, fun _ => 0, by omega, rfl, CellsAt.empty _ _ _ _ _ _ _⟩
  case round =>
    obtain ⟨hb, i, b, hik, rfl, hcl⟩ := hrel
    by_cases hlti : i < fs.length
    ·
      as_aux_lemma =>
      obtain ⟨n, rfl⟩ : ∃ n, gk = n + 1 := ⟨gk - 1, by omega⟩
      have hFr := HF.out
      obtain ⟨a', cap', e1, _, hc⟩ := hFr
      cases e1
      obtain ⟨bi, off, rfl, hcell⟩ := hc (by omega)
      obtain ⟨c, p, q1, q2, q3, q4⟩ := hcell i hlti
      have hbiw : bi < w.heap.size := World.block_lt_of_cell? w _ q1
      have hq3w := q3
      have hq3 := q3.below hb (Nat.le_refl _)
      have hq4 := q4.below hb (Nat.le_refl _)
      replace q1 := (hb.cell (p := ⟨bi, off + i * 2, none⟩) hbiw).trans q1
      replace q2 := (hb.cell (p := ⟨bi, off + i * 2 + 1, none⟩) hbiw).trans q2
      obtain ⟨ac, cc, rfl, hlc, _⟩ := q3
      obtain ⟨ap, cp, rfl, _, _⟩ := q4
      have HQ3 := Lib.hid hq3; have HQ4 := Lib.hid hq4; have HQW := Lib.hid hq3w
      have hrg := HRG.out i (by omega) hlti
      have hmk := HMI.out
      have HCL := Lib.hid hcl
      clear hc hcell hq3 hq4 hcl hq3w
      rename World => w1
      have hsz1 := hb.size
      have hserve : ∀ w2, Below w.heap.size w w2 → Ints w2 (.slice (some ⟨w1.heap.size + 1, 0, none⟩) (T + 1) (T + 1)) (padL (fC fs i) (T + 1)) → Ints w2 (.slice ap (fP fs i).length cp) (fP fs i) →
          Calls Tryd.prog 13 #[.slice (some ⟨w1.heap.size + 1, 0, none⟩) (T + 1) (T + 1), .slice ap (fP fs i).length cp] w2 (ServeP w2 (byL (fC fs i) (fP fs i) T) (.int .i64 0)) := fun w2 hb hp hq => by
        have h := RefServe_any _ _ (padL (fC fs i) (T + 1)) (fP fs i) w2 hp hq (HOK.out i hlti).1 (by rw [padL_length (by omega)]; omega) (HCO.out i hlti).pad
        rw [padL_length (by omega)] at h
        exact h
      have HSV := Lib.hid hserve; clear hserve
      have hbA : Below w1.heap.size w1 ((w1.alloc (.cells #[.slice ac (fC fs i).length cc, .slice ap (fP fs i).length cp] 30)).alloc (.cells (madeCells #[.int .i64 0] (T + 1)) 3)) := ((Below.refl _ _).alloc (Nat.le_refl _) _).alloc (by simp) _
      have HBA := Lib.hid hbA; have HB := Lib.hid hb; clear hbA hb
      go_upto_region 8 with (first | (refine wpList_copy_pad rfl _ _ 28 28 rfl 3 Tryd.underlying28 (by kernel_rfl) (w1.heap.size + 1) (T + 1) (fC fs i) (.slice ac (fC fs i).length cc) (by rfl) (by rfl) ?hv ?hg (by omega) (by omega) ?hm; case' hm => (intro w2 hcm hg2; obtain ⟨hgn2, hsz2, hk0, hk1⟩ := box_then_copy hg2; have hb2 : Below w1.heap.size w1 w2 := (Below.refl _ _).grown hgn2 (Nat.le_refl _) (fun k hk => by cases hk))) | (go_at_call 13; refine (HSV.out _ (HB.out.trans (hb2.mono hsz1)) hcm (HQ4.out.below hb2 (Nat.le_refl _))).mono ?_; rintro e w3 ⟨by_, rfl, hby, hb3, hfy⟩; have hk0' := (hb3.cell (p := ⟨w1.heap.size, 0, none⟩) (show w1.heap.size < w2.heap.size by omega)).trans hk0))
      case hv => exact HQ3.out.below HBA.out (Nat.le_refl _)
      case hg => exact alloc2_get _ _ _
      refine wp_forget (fun W => w1.grownBy W none ∧ w1.heap.size < W.heap.size ∧ W.cell? ⟨w1.heap.size, 0, none⟩ = some (.slice ac (fC fs i).length cc) ∧ Ints W by_ (byL (fC fs i) (fP fs i) T) ∧ ∀ k, by_.ownBlock = some k → w1.heap.size ≤ k) ⟨grownBy_trans hgn2 ⟨hb3.os, hb3.tape, hb3.output, hb3.size, fun k hk _ => hb3.block k hk⟩, Nat.lt_of_lt_of_le (by omega) hb3.size, hk0', hby, fun k hk => Nat.le_trans (by omega) (hfy k hk)⟩ ?_
      rintro w4 ⟨hg4, hlt4, hf0, hby4, hfy4⟩
      clear hgn2 hsz2 hk0 hk1 hb2 hb3 hby hfy hk0' hcm q1 q2
      obtain ⟨l, hlE⟩ : ∃ l, l = byL (fC fs i) (fP fs i) T := ⟨_, rfl⟩
      have hlen : l.length = T + 1 := by rw [hlE]; exact serveL_length _ _ _
      obtain ⟨ay, cy, rfl, hly, hcy⟩ := hby4
      rw [← hlE] at hly hcy ⊢
      have hle1 : T + 1 ≤ l.length := by omega
      have hle2 : l.length ≤ T + 1 := by omega
      have HLN := Lib.hid hlen; have HLE := Lib.hid hlE
      clear hlen hlE
      have HCY := Lib.hid hcy; have HFY := Lib.hid hfy4; clear hcy hfy4
      obtain ⟨vC0, rfl⟩ : ∃ v, v = u7 := ⟨_, rfl⟩
      have hcl4 := HCL.out.grown hg4
      have hown0 : ∀ k, vC0.ownBlock = some k → k < w1.heap.size := fun k hk => (HCL.out.own.lt k hk).2
      have hcs := HCO.out i hlti
      have HCS := Lib.hid hcs
      have hcn : (cellsN (fC fs i) : Int) ≤ 300000000 := by
        have h1 := pre_bd hcs (fC fs i).length (Nat.le_refl _)
        unfold cellsN; omega
      have hbase : baseN (fC fs) i ≤ 3000000000 := by
        have : ∀ j, j ≤ fs.length → baseN (fC fs) j ≤ 300000000 * j := fun j => by
          induction j with
          | zero => intro _; simp [baseN]
          | succ j ih =>
            intro hj
            have h1 := ih (by omega)
            have h2 := pre_bd (HCO.out j (by omega)) (fC fs j).length (Nat.le_refl _)
            have h3 := (HRG.out j (by omega) (by omega)).1
            simp only [baseN, cellsN]; omega
        have := this i (by omega)
        omega
      clear hcs
      go_wp2_with fail
      go_loopg [7, 13, 54] (fC fs i).length (fun g vC kv t W => w4.grownBy W vC0.ownBlock ∧ (∀ k, vC.ownBlock = some k → vC0.ownBlock = some k ∨ w4.heap.size ≤ k) ∧ ∃ (t' : Nat) (b : Nat → Nat), t' + g = (fC fs i).length ∧ t = .int .i64 t' ∧ kv = .int .i64 (pre (fC fs i) t') ∧
        CellsAt W w.heap.size vC (baseN (fC fs) i + (pre (fC fs i) t').toNat) b (flAt (fC fs) fs.length) (atV (fC fs) fs.length) (dueV (promF fs T) (fC fs) fs.length) (fun _ => -1))
      case atStart => exact ⟨grownBy_refl _ _, fun k hk => .inl hk, 0, b, by omega, rfl, rfl, hcl4⟩
      case round =>
        clear hcl4
        obtain ⟨hgr, hvc, t, b2, htk, rfl, rfl, hcl⟩ := hrel
        by_cases hltt : t < (fC fs i).length
        · obtain ⟨n2, rfl⟩ : ∃ n, gk = n + 1 := ⟨gk - 1, by omega⟩
          have hp := pre_bd HCS.out t (by omega)
          have hgt := HCS.out t hltt
          have hq3 := HQW.out
          obtain ⟨_, _, e3, _, hc3⟩ := hq3
          cases e3
          obtain ⟨bC, oC, rfl, hcC⟩ := hc3 (by omega)
          have hCw : bC < w.heap.size := World.block_lt_of_cell? w _ (hcC t hltt)
          have hct : wr.cell? ⟨bC, oC + t, none⟩ = some (.int .i64 (gi (fC fs i) t)) := by
            refine hgr.cell (a := ⟨bC, oC + t, none⟩) (hg4.cell (a := ⟨bC, oC + t, none⟩) ((HB.out.cell (p := ⟨bC, oC + t, none⟩) hCw).trans (hcC t hltt)) (by simp)) (fun e => ?_)
            have := (HCL.out.own.lt bC e.symm).1
            omega
          have HCLT := Lib.hid hcl
          clear hc3 hcC hcl
          go_wp2_with fail
          -- the cells of one tick
          go_loopg [7, 13, 60] (gi (fC fs i) t).toNat (fun g vC kv r W => w4.grownBy W vC0.ownBlock ∧ (∀ k, vC.ownBlock = some k → vC0.ownBlock = some k ∨ w4.heap.size ≤ k) ∧ ∃ (r' : Nat) (b : Nat → Nat), r' + g = (gi (fC fs i) t).toNat ∧ r = .int .i64 r' ∧ kv = .int .i64 (pre (fC fs i) t + r') ∧
            CellsAt W w.heap.size vC (baseN (fC fs) i + (pre (fC fs i) t).toNat + r') b (flAt (fC fs) fs.length) (atV (fC fs) fs.length) (dueV (promF fs T) (fC fs) fs.length) (fun _ => -1))
          case atStart => exact ⟨hgr, hvc, 0, b2, by omega, rfl, by simp, HCLT.out⟩
          case round =>
            clear hgr hvc hct
            obtain ⟨hgr, hvc, r, b3, hrk, rfl, rfl, hcl⟩ := hrel
            have HCLR := Lib.hid hcl; clear hcl
            by_cases hltr : (r : Int) < gi (fC fs i) t
            · obtain ⟨n3, rfl⟩ : ∃ n, gk = n + 1 := ⟨gk - 1, by omega⟩
              obtain ⟨vC1, rfl⟩ : ∃ v, v = u7 := ⟨_, rfl⟩
              rename World => w5
              have hz45 := hgr.size
              have hd61 : decide ((r : Int) < gi (fC fs i) t) = true := by simpa using hltr
              have hcnt : (pre (fC fs i) t).toNat + r < cellsN (fC fs i) := by
                have h1 := pre_mono HCS.out (show t + 1 ≤ (fC fs i).length by omega)
                simp only [pre] at h1
                unfold cellsN; omega
              obtain ⟨bY, oY, rfl, hcY⟩ := HCY.out (by omega)
              have hby : ∀ W, w5.grownBy W none → ∀ u, u < T + 1 → W.cell? ⟨bY, oY + u, none⟩ = some (.int .i64 (gi l u)) := fun W hw u hu => by
                refine hw.cell (a := ⟨bY, oY + u, none⟩) (hgr.cell (a := ⟨bY, oY + u, none⟩) (hcY u (by omega)) (fun e => ?_)) (by simp)
                have h1 := HFY.out bY rfl
                have h2 := hown0 bY e.symm
                omega
              have HBY := Lib.hid hby
              have hkk : pre (fC fs i) t + (r : Int) + 1 ≤ 300000002 := by omega
              clear hcY hby
              go_wp2_with fail
              go_loopg [17] (T + 1) (fun g u W => w5.grownBy W none ∧ w5.heap.size < W.heap.size ∧ W.heap[w5.heap.size]? = some (cellObj i t (fstGe l (pre (fC fs i) t + (r : Int) + 1) (T + 1 - g) g) (-1)) ∧ g ≤ T + 1 ∧ u = .int .i64 ((g : Int) - 1))
              case atStart => exact ⟨World.grownBy_alloc _ _ _, by rw [size_alloc]; omega, by rw [Nat.sub_self]; exact heap_alloc_new _ _, Nat.le_refl _, by simp⟩
              case round =>
                obtain ⟨hg5, hlt5, hobj, hgT, rfl⟩ := hrel
                by_cases hg0 : 0 < gk
                · obtain ⟨m, rfl⟩ : ∃ m, gk = m + 1 := ⟨gk - 1, by omega⟩
                  rw [show ((m + 1 : Nat) : Int) - 1 = (m : Int) by omega]
                  have hyu := HBY.out wr hg5 m (by omega)
                  obtain ⟨o0, o1, o2, o3, z2, z3⟩ := cellObj_cells hobj
                  have hst : T + 1 - m = (T + 1 - (m + 1)) + 1 := by omega
                  have HST := Lib.hid hst; have HOB := Lib.hid hobj
                  clear hst hobj
                  by_cases hge : pre (fC fs i) t + (r : Int) + 1 ≤ gi l m
                  · go_wp2
                    go_roundg m
                    case measure => omega
                    case rel =>
                      have hs := grownBy_setCell (grownBy_refl wr (some w5.heap.size)) 2 (.int .i64 (m : Int))
                      refine ⟨⟨hg5.os, hg5.tape, hg5.output, Nat.le_trans hg5.size hs.size, fun k hk _ => (hs.block k (by omega) (by simp; omega)).trans (hg5.block k hk (by simp))⟩, Nat.lt_of_lt_of_le hlt5 hs.size, ?_, by omega, by simp⟩
                      rw [HST.out, fstGe_yes hge]
                      simp [World.setCell, Array.getElem?_modify, HOB.out, cellObj]
                  · go_wp2
                    go_roundg m
                    case measure => omega
                    case rel => exact ⟨hg5, hlt5, by rw [HST.out, fstGe_no (by omega)]; exact HOB.out, by omega, rfl⟩
                · have hg00 : gk = 0 := by omega
                  subst hg00
                  have hdue : fstGe l (pre (fC fs i) t + (r : Int) + 1) (T + 1) 0 = dueV (promF fs T) (fC fs) fs.length (baseN (fC fs) i + (pre (fC fs i) t).toNat + r) := by
                    rw [Nat.add_assoc, dueV_place hlti hcnt, promF, promL, gi_dueL hcnt, ← HLE.out, dueAt, HLN.out]
                    congr 1; omega
                  have hflE : flAt (fC fs) fs.length (baseN (fC fs) i + (pre (fC fs i) t).toNat + r) = i := by rw [Nat.add_assoc]; exact flAt_eq hcnt _ hlti
                  have hatE : atV (fC fs) fs.length (baseN (fC fs) i + (pre (fC fs i) t).toNat + r) = t := by
                    rw [Nat.add_assoc, atV_place hlti hcnt]
                    exact atOf_eq HCS.out hltt (by omega) (by simp only [pre]; omega)
                  rw [Nat.sub_zero, hdue] at hobj
                  have hobj' : wr.heap[w5.heap.size]? = some (cellObj (flAt (fC fs) fs.length (baseN (fC fs) i + (pre (fC fs i) t).toNat + r)) (atV (fC fs) fs.length (baseN (fC fs) i + (pre (fC fs i) t).toNat + r)) (dueV (promF fs T) (fC fs) fs.length (baseN (fC fs) i + (pre (fC fs i) t).toNat + r)) (-1)) := by rw [hflE, hatE]; exact hobj
                  have HOB := Lib.hid hobj'
                  have hcl5 := HCLR.out.grown hg5
                  have hown5 := hcl5.own
                  have HC5 := Lib.hid hcl5
                  have hszr : w.heap.size ≤ wr.heap.size := by have := hg4.size; have := hg5.size; omega
                  clear hdue hflE hatE hobj hobj' hcl5
                  go_wp2_with (at_builtin; refine wpList_append_fresh rfl _ _ 49 rfl w.heap.size 52 (.pointer none) 1 8 Tryd.underlying49 infoCell rfl (by decide) _ _ _ rfl wr hown5 1 [.pointer (some ⟨w5.heap.size, 0, none⟩)] 0 rfl rfl rfl (by simp [Value.oneCell']) (by decide) (by omega) (by omega) hszr ?_; intro g cp w6 ho hgr6 hat hlt6)
                  go_roundg n3
                  case measure => omega
                  case rel =>
                    have hz5r := hg5.size
                    refine ⟨grownBy_step (grownBy_step hgr hg5 (fun x hx => by cases hx)) hgr6 (fun x hx => (hvc x hx)), fun x hx => ?_, r + 1, _, by omega, by go_num, int_eq (by omega), HC5.out.add (bn := w5.heap.size) HOB.out (by omega) (fun c hc => HCLR.out.lt hc) (fun e => by have := (HCLR.out.own.lt _ e).2; omega) hgr6 ho rfl (hat.imp id (fun h => by omega))⟩
                    have hx' : g = x := by simpa [Value.ownBlock] using hx
                    subst hx'
                    rcases hat with h1 | h1
                    · exact hvc g h1
                    · right; omega
            · have hrE : r = (gi (fC fs i) t).toNat := by omega
              have hnx : pre (fC fs i) (t + 1) = pre (fC fs i) t + gi (fC fs i) t := rfl
              have HRE := Lib.hid hrE; have HNX := Lib.hid hnx
              clear hrE hnx
              go_wp2
              go_roundg n2
              case measure => omega
              case rel =>
                refine ⟨hgr, hvc, t + 1, b3, by omega, by go_num, int_eq (by have := HRE.out; have := HNX.out; omega), ?_⟩
                have e : baseN (fC fs) i + (pre (fC fs i) (t + 1)).toNat = baseN (fC fs) i + (pre (fC fs i) t).toNat + r := by have := HRE.out; have := HNX.out; omega
                rw [e]; exact HCLR.out
        · have htl : t = (fC fs i).length := by omega
          have hbs : baseN (fC fs) (i + 1) = baseN (fC fs) i + (pre (fC fs i) t).toNat := by rw [htl]; rfl
          have HCLT := Lib.hid hcl; have HBS := Lib.hid hbs
          clear hcl htl hbs
          go_wp2
          go_roundg n
          case measure => omega
          case rel =>
            refine ⟨(HB.out.trans ((Below.refl _ _).grown hg4 (by omega) (fun k hk => by cases hk))).grown hgr (by have := hg4.size; omega) (fun k hk => (HCL.out.own.lt k hk).1), i + 1, b2, by omega, by go_num, ?_⟩
            rw [HBS.out]; exact HCLT.out
    · have hiF : i = fs.length := by omega
      subst hiF
      obtain ⟨vC0, rfl⟩ : ∃ v, v = u7 := ⟨_, rfl⟩
      obtain ⟨M, hM⟩ : ∃ M, M = baseN (fC fs) fs.length := ⟨_, rfl⟩
      rw [← hM] at hcl
      have hM3 : M ≤ 3000000000 := by
        have : ∀ j, j ≤ fs.length → baseN (fC fs) j ≤ 300000000 * j := fun j => by
          induction j with
          | zero => intro _; simp [baseN]
          | succ j ih =>
            intro hj
            have h1 := ih (by omega)
            have h2 := pre_bd (HCO.out j (by omega)) (fC fs j).length (Nat.le_refl _)
            have h3 := (HRG.out j (by omega) (by omega)).1
            simp only [baseN, cellsN]; omega
        have := this fs.length (Nat.le_refl _)
        omega
      obtain ⟨cC, capC, hvC⟩ := owns_slice' hcl.own
      have HM := Lib.hid hM; have HCL := Lib.hid hcl; have HB := Lib.hid hb
      subst hvC
      clear hM hcl hb
      rename World => w1
      have hown0 := World.ownsRow_nil w1 w1.heap.size 3 1
      go_wp2_with fail
      -- tick by tick
      go_loopg [18, 91] T (fun g vS tt W => w1.heap.size ≤ W.heap.size ∧ Below w.heap.size w W ∧ ∃ t : Nat, t + g = T ∧ tt = .int .i64 t ∧ W.ownsRow w1.heap.size 3 1 vS (sentL T (promF fs T) (fC fs) fs.length t).length ((sentL T (promF fs T) (fC fs) fs.length t).map (Value.int .i64)) ∧
        CellsAt W w.heap.size (.slice cC M capC) M b (flAt (fC fs) fs.length) (atV (fC fs) fs.length) (dueV (promF fs T) (fC fs) fs.length) (thrV T (promF fs T) (fC fs) fs.length t))
      case atStart => exact ⟨Nat.le_refl _, HB.out, 0, by omega, rfl, by simpa [sentL] using hown0, ⟨HCL.out.own, HCL.out.cell, HCL.out.ord, HCL.out.lo, HCL.out.sep⟩⟩
      case round =>
        clear hown0
        obtain ⟨hsz, hb, t, htk, rfl, hown, hcl⟩ := hrel
        have HOW := Lib.hid hown; have HCT := Lib.hid hcl
        clear hown hcl
        by_cases hltT : t < T
        · obtain ⟨n, rfl⟩ : ∃ n, gk = n + 1 := ⟨gk - 1, by omega⟩
          rename World => w2
          go_wp2_with fail
          -- cell by cell
          go_loopg [20, 96] M (fun g best cc W => Below w2.heap.size w2 W ∧ ∃ c : Nat, c + g = M ∧ cc = .int .i64 c ∧ best = bestV b (rb T (promF fs T) (fC fs) fs.length t c))
          case atStart => exact ⟨Below.refl _ _, 0, by omega, rfl, rfl⟩
          case round =>
            obtain ⟨hb2, c, hck, rfl, rfl⟩ := hrel
            by_cases hltc : c < M
            ·
              as_aux_lemma =>
              obtain ⟨m, rfl⟩ : ∃ m, gk = m + 1 := ⟨gk - 1, by omega⟩
              obtain ⟨gC, rfl, hgC, hel⟩ := HCT.out.elem hltc
              have helr : ∀ W, Below w2.heap.size w2 W → ∀ o, o < M → W.cell? ⟨gC, o, none⟩ = some (.pointer (some ⟨b o, 0, none⟩)) := fun W hw o ho => (hw.cell (p := ⟨gC, o, none⟩) hgC).trans (hel o ho)
              have hobr : ∀ W, Below w2.heap.size w2 W → ∀ o, o < M → W.heap[b o]? = some (cellObj (flAt (fC fs) fs.length o) (atV (fC fs) fs.length o) (dueV (promF fs T) (fC fs) fs.length o) (thrV T (promF fs T) (fC fs) fs.length t o)) := fun W hw o ho => below_heap hw (HCT.out.cell o ho) (HCT.out.lt ho)
              have HEL := Lib.hid helr; have HOR := Lib.hid hobr
              have hec := helr wr hb2 c hltc
              obtain ⟨c0, c1, c2, c3, _, _⟩ := cellObj_cells (hobr wr hb2 c hltc)
              clear hel helr hobr
              -- is it the first of its flow that is left?
              have hf0 := frB_zero (T := T) (D := promF fs T) (come := fC fs) (F := fs.length) (t := t) (c := c)
              have HF0 := Lib.hid hf0; clear hf0
              go_upto_region 33 with fail
              go_cut [23] (fun s23 W => W = wr ∧ s23 = .bool (frB T (promF fs T) (fC fs) fs.length t c 0))
              case first =>
                by_cases h1 : atV (fC fs) fs.length c ≤ t
                · have hd1 : decide ((atV (fC fs) fs.length c : Int) ≤ (t : Int)) = true := by simp; exact h1
                  by_cases h2 : thrV T (promF fs T) (fC fs) fs.length t c < 0
                  · go_wp2_with fail
                    go_meet
                    case rel => exact ⟨rfl, by rw [HF0.out]; simp [h1, h2]⟩
                  · have hd2 : decide (thrV T (promF fs T) (fC fs) fs.length t c < 0) = false := by simpa using h2
                    go_wp2_with fail
                    go_meet
                    case rel => exact ⟨rfl, by rw [HF0.out]; simp [h1, h2]⟩
                · have hd1 : decide ((atV (fC fs) fs.length c : Int) ≤ (t : Int)) = false := by simp; omega
                  go_wp2_with fail
                  go_meet
                  case rel => exact ⟨rfl, by rw [HF0.out]; simp [h1]⟩
              case rest =>
                obtain ⟨rfl, rfl⟩ := hcut
                rename World => w3
                go_wp2_with fail
                go_loopg [23, 115] c (fun g fr oo W => Below w2.heap.size w2 W ∧ ∃ o : Nat, o + g = c ∧ oo = .int .i64 o ∧ fr = .bool (frB T (promF fs T) (fC fs) fs.length t c o))
                case atStart => exact ⟨hb2, 0, by omega, rfl, rfl⟩
                case round =>
                  obtain ⟨hb3, o, hok, rfl, rfl⟩ := hrel
                  have heo := HEL.out wr hb3
                  have hoo := HOR.out wr hb3
                  by_cases hoc : o < c
                  ·
                    as_aux_lemma =>
                    obtain ⟨q, rfl⟩ : ∃ q, gk = q + 1 := ⟨gk - 1, by omega⟩
                    have he1 := heo o (by omega)
                    obtain ⟨d0, d1, d2, d3, _, _⟩ := cellObj_cells (hoo o (by omega))
                    obtain ⟨e0, _, _, _, _, _⟩ := cellObj_cells (hoo c hltc)
                    have heq := cell_ne (fun e => by have := (HCT.out.inj (show o < M by omega) hltc).1 e; omega) (hoo o (by omega)) (hoo c hltc)
                    clear heo hoo hec c0 c1 c2 c3
                    cases hfr : frB T (promF fs T) (fC fs) fs.length t c o with
                    | false =>
                      have HFR := Lib.hid (frB_no hfr)
                      clear hfr
                      go_wp2
                      go_quiet (fail)
                      go_wp2
                      go_roundg q
                      case measure => omega
                      case rel => exact ⟨below_drewN hb3 _, o + 1, by omega, by go_num, by rw [HFR.out]⟩
                    | true =>
                      by_cases hfl : flAt (fC fs) fs.length o = flAt (fC fs) fs.length c
                      · have hd1 : ((flAt (fC fs) fs.length o : Int) != (flAt (fC fs) fs.length c : Int)) = false := by rw [hfl]; simp
                        by_cases hth : 0 ≤ thrV T (promF fs T) (fC fs) fs.length t o
                        · have HFR := Lib.hid (frB_on hfr (.inr hth))
                          clear hfr hfl
                          go_wp2
                          go_quiet (fail)
                          go_wp2
                          go_roundg q
                          case measure => omega
                          case rel => exact ⟨below_drewN hb3 _, o + 1, by omega, by go_num, by rw [HFR.out]⟩
                        · have HFR := Lib.hid (frB_off (T := T) (D := promF fs T) (t := t) hfl hth)
                          have hd2 : decide (0 ≤ thrV T (promF fs T) (fC fs) fs.length t o) = false := by simpa using hth
                          clear hfr hfl
                          go_wp2
                          go_quiet (fail)
                          go_wp2
                          go_roundg q
                          case measure => omega
                          case rel => exact ⟨below_drewN hb3 _, o + 1, by omega, by go_num, by rw [HFR.out]⟩
                      · have hd1 : ((flAt (fC fs) fs.length o : Int) != (flAt (fC fs) fs.length c : Int)) = true := by rw [bne_iff_ne]; omega
                        have HFR := Lib.hid (frB_on hfr (.inl hfl))
                        clear hfr hfl
                        go_wp2
                        go_quiet (fail)
                        go_wp2
                        go_roundg q
                        case measure => omega
                        case rel => exact ⟨below_drewN hb3 _, o + 1, by omega, by go_num, by rw [HFR.out]⟩
                  · have hocE : o = c := by omega
                    subst hocE
                    have he1 := heo o hltc
                    have heq := cell_same wr (b o)
                    obtain ⟨d0, d1, d2, d3, _, _⟩ := cellObj_cells (hoo o hltc)
                    clear hec c0 c1 c2 c3
                    have hrbr := rb_range (T := T) (D := promF fs T) (come := fC fs) (F := fs.length) (t := t) o
                    cases hfr : frB T (promF fs T) (fC fs) fs.length t o o with
                    | false =>
                      have hk : rb T (promF fs T) (fC fs) fs.length t (o + 1) = rb T (promF fs T) (fC fs) fs.length t o := rb_keep (fun h => by rw [← frB_iff, hfr] at h; exact absurd h.1 (by simp))
                      have HK := Lib.hid hk
                      clear hfr hk hrbr heo hoo
                      go_wp2
                      go_roundg m
                      case measure => omega
                      case rel => exact ⟨hb3, o + 1, by omega, by go_num, by rw [HK.out]⟩
                    | true =>
                      by_cases hr : rb T (promF fs T) (fC fs) fs.length t o < 0
                      · have HK := Lib.hid (rb_take (frB_iff.1 hfr) (.inl hr))
                        have HBN := Lib.hid (bestV_neg (b := b) hr)
                        clear hfr hrbr heo hoo
                        rw [HBN.out]
                        go_wp2
                        go_roundg m
                        case measure => omega
                        case rel => exact ⟨hb3, o + 1, by omega, by go_num, by rw [HK.out, bestV_pos (by omega)]; rfl⟩
                      · obtain ⟨r, hrE⟩ : ∃ r : Nat, rb T (promF fs T) (fC fs) fs.length t o = r := ⟨(rb T (promF fs T) (fC fs) fs.length t o).toNat, by omega⟩
                        have hro : r < o := by
                          rcases hrbr with h | ⟨c', h1, h2⟩
                          · omega
                          · omega
                        have hbp : bestV b (rb T (promF fs T) (fC fs) fs.length t o) = .pointer (some ⟨b r, 0, none⟩) := by rw [bestV_pos hr, hrE]; rfl
                        obtain ⟨_, _, k2, _, _, _⟩ := cellObj_cells (hoo r (by omega))
                        have hkc := key_any (b o) T _ wr d2 hT
                        have hkr := key_any (b r) T _ wr k2 hT
                        have HKC := Lib.hid hkc; have HKR := Lib.hid hkr
                        rw [hbp]
                        by_cases hlt : kd T (dueV (promF fs T) (fC fs) fs.length o) < kd T (dueV (promF fs T) (fC fs) fs.length r)
                        · have HK := Lib.hid (rb_take (frB_iff.1 hfr) (.inr (by rw [hrE, Int.toNat_natCast]; exact hlt)))
                          clear hfr hrbr heo hoo hbp hrE hkc hkr hr
                          go_wp2_with (first | (go_at_call_of 14 (Value.pointer (some ⟨b o, 0, none⟩)); refine HKC.out.mono ?_; rintro e w' ⟨rfl, rfl⟩) | (go_at_call_of 14 (Value.pointer (some ⟨b r, 0, none⟩)); refine HKR.out.mono ?_; rintro e w' ⟨rfl, rfl⟩))
                          go_roundg m
                          case measure => omega
                          case rel => exact ⟨hb3, o + 1, by omega, by go_num, by rw [HK.out, bestV_pos (by omega)]; rfl⟩
                        · have hk : rb T (promF fs T) (fC fs) fs.length t (o + 1) = rb T (promF fs T) (fC fs) fs.length t o := rb_keep (fun h => by
                            rcases h.2 with h2 | h2
                            · omega
                            · rw [hrE, Int.toNat_natCast] at h2; omega)
                          have HK := Lib.hid hk; have HBP := Lib.hid hbp
                          have hlt' : decide (kd T (dueV (promF fs T) (fC fs) fs.length o) < kd T (dueV (promF fs T) (fC fs) fs.length r)) = false := by simpa using hlt
                          clear hfr hrbr heo hoo hbp hrE hkc hkr hk hr
                          go_wp2_with (first | (go_at_call_of 14 (Value.pointer (some ⟨b o, 0, none⟩)); refine HKC.out.mono ?_; rintro e w' ⟨rfl, rfl⟩) | (go_at_call_of 14 (Value.pointer (some ⟨b r, 0, none⟩)); refine HKR.out.mono ?_; rintro e w' ⟨rfl, rfl⟩))
                          go_roundg m
                          case measure => omega
                          case rel => exact ⟨hb3, o + 1, by omega, by go_num, by rw [HK.out, HBP.out]⟩
            · have hcM : c = M := by omega
              subst hcM
              have hmc : c = baseN (fC fs) fs.length := HM.out
              have hall := rb_all (T := T) (D := promF fs T) (come := fC fs) (F := fs.length) (t := t) HCO.out
              rw [← hmc] at hall
              have hcl3 := HCT.out.below' hb2
              have hown3 := owns_below HOW.out hb2
              have hb3 := hb.trans (hb2.mono hb.size)
              have hsz3 : w1.heap.size ≤ wr.heap.size := Nat.le_trans hsz hb2.size
              have HC3 := Lib.hid hcl3; have HMC := Lib.hid hmc
              have hsl := sentL_length T (promF fs T) (fC fs) fs.length t
              have HSL := Lib.hid hsl
              clear hsl hcl3 hmc
              rename World => w4
              rcases hall with ⟨hr, hbest⟩ | ⟨j, hjF, hbest, hSj, hr⟩
              · have HBE := Lib.hid hbest
                have HBN := Lib.hid (bestV_neg (b := b) (r := rb T (promF fs T) (fC fs) fs.length t c) (by omega))
                rw [HBN.out]
                clear hbest hr
                go_wp2_with (at_builtin; refine wpList_append_int rfl _ _ 28 3 rfl Tryd.underlying28 infoInt w1.heap.size _ _ rfl hown3 _ rfl (by rw [HSL.out]; omega) hsz3 ?_; intro v' w' hown' hgr)
                go_roundg n
                case measure => omega
                case rel =>
                  refine ⟨Nat.le_trans hsz3 hgr.size, hb3.grown hgr (by have := HB.out.size; omega) (fun k hk => by have := (hown3.lt k hk).1; have := HB.out.size; omega), t + 1, by omega, by go_num, by rw [sentL_succ, HBE.out]; exact hown', (HC3.out.kept hgr (fun k hk => ?_)).congr (fun c' _ => (thrV_none HBE.out c').symm)⟩
                  have h1 := (hown3.lt k hk).1
                  exact ⟨fun e => by have := (HCL.out.own.lt k e).2; omega, fun c' hc' e => by have := HCL.out.lt hc'; omega⟩
              · obtain ⟨p, hpE⟩ : ∃ p, p = baseN (fC fs) j + stS T (promF fs T) (fC fs) fs.length t j := ⟨_, rfl⟩
                have hpM : p < c := by
                  have := baseN_mono (fC fs) (show j + 1 ≤ fs.length by omega)
                  have := HMC.out
                  simp only [baseN] at *; omega
                have hflp : flAt (fC fs) fs.length p = j := by rw [hpE]; exact flAt_eq hSj _ hjF
                have hbv : bestV b (rb T (promF fs T) (fC fs) fs.length t c) = .pointer (some ⟨b p, 0, none⟩) := by rw [hr, ← hpE, bestV_pos (by omega)]; rfl
                rw [hbv]
                have HBE := Lib.hid hbest; have HPE := Lib.hid hpE; have HFL := Lib.hid hflp
                have hset := HC3.out.setThr hpM ((t : Int) + 1)
                have HSET := Lib.hid hset
                obtain ⟨d0, d1, d2, d3, z2, z3⟩ := cellObj_cells (HC3.out.cell p hpM)
                have hgs := grownBy_setCell (grownBy_refl w4 (some (b p))) 3 (.int .i64 ((t : Int) + 1))
                have hownA : (w4.setCell ⟨b p, 3, none⟩ (.int .i64 ((t : Int) + 1))).ownsRow w1.heap.size 3 1 u18 (sentL T (promF fs T) (fC fs) fs.length t).length ((sentL T (promF fs T) (fC fs) fs.length t).map (Value.int .i64)) := by
                  refine hown3.kept hgs ?_
                  cases hv : u18.ownBlock with
                  | none => exact .inl rfl
                  | some k => right; intro e; cases e; have := (hown3.lt _ hv).1; have := HCL.out.lt hpM; omega
                have hszA : w1.heap.size ≤ (w4.setCell ⟨b p, 3, none⟩ (.int .i64 ((t : Int) + 1))).heap.size := Nat.le_trans hsz3 hgs.size
                clear hbest hr hbv hpE hflp
                go_upto_region 46 with fail
                refine wp_forget (fun W => w4.grownBy W (some (b p)) ∧ W.ownsRow w1.heap.size 3 1 u18 (sentL T (promF fs T) (fC fs) fs.length t).length ((sentL T (promF fs T) (fC fs) fs.length t).map (Value.int .i64)) ∧
                  CellsAt W w.heap.size (.slice cC c capC) c b (flAt (fC fs) fs.length) (atV (fC fs) fs.length) (dueV (promF fs T) (fC fs) fs.length) (upd (thrV T (promF fs T) (fC fs) fs.length t) p ((t : Int) + 1))) ⟨hgs, hownA, HSET.out⟩ ?_
                rintro W5 ⟨hg5, hown5, hcl5⟩
                obtain ⟨e0, _, _, _, _, _⟩ := cellObj_cells (hcl5.cell p hpM)
                have HC5 := Lib.hid hcl5; have HG5 := Lib.hid hg5
                have hsz5 : w1.heap.size ≤ W5.heap.size := Nat.le_trans hsz3 hg5.size
                clear hset hgs hownA hszA d0 d1 d2 d3 z2 z3 hcl5
                go_wp2_with (at_builtin; refine wpList_append_int rfl _ _ 28 3 rfl Tryd.underlying28 infoInt w1.heap.size _ _ rfl hown5 _ rfl (by rw [HSL.out]; omega) hsz5 ?_; intro v' w' hown' hgr)
                go_roundg n
                case measure => omega
                case rel =>
                  have hbpw : w.heap.size ≤ b p := HCL.out.lo p hpM
                  have hb5 : Below w.heap.size w W5 := hb3.grown HG5.out (by have := HB.out.size; omega) (fun k hk => by cases hk; exact hbpw)
                  refine ⟨Nat.le_trans hsz5 hgr.size, hb5.grown hgr (by have := HB.out.size; omega) (fun k hk => by have := (hown5.lt k hk).1; have := HB.out.size; omega), t + 1, by omega, by go_num, by rw [sentL_succ, HBE.out, ← HFL.out]; exact hown', (HC5.out.kept hgr (fun k hk => ?_)).congr (fun c' hc' => ?_)⟩
                  · have h1 := (hown5.lt k hk).1
                    exact ⟨fun e => by have := (HCL.out.own.lt k e).2; omega, fun c' hc' e => by have := HCL.out.lt hc'; omega⟩
                  · rw [thrV_one hjF HBE.out hSj (by rw [← HMC.out]; exact hc'), ← HPE.out]; rfl
        · have hsl := sentL_length T (promF fs T) (fC fs) fs.length t
          have htM : t = T := by omega
          subst htM
          have HSL := Lib.hid hsl
          have hFl : fs.length ≤ 8 := hl2
          have hm := run_make_row' (P := Tryd.prog) 31 28 (.slice none 0 0) 24 Tryd.underlying31 infoIntsR rfl .i64 .i64 fs.length (by omega) (by omega)
          clear hsl
          rename World => w6
          go_upto_region 48 with fail
          go_cut [26, 27] (fun s26 s27 W => w6.grownBy W none ∧ ∃ Bp Bt, s26 = .slice (some ⟨Bp, 0, none⟩) fs.length fs.length ∧ s27 = .slice (some ⟨Bt, 0, none⟩) fs.length fs.length ∧ w6.heap.size ≤ Bp ∧ w6.heap.size ≤ Bt ∧ Bp ≠ Bt ∧
            W.rowIs Bp 28 fs.length (fun _ => .slice none 0 0) ∧ W.rowIs Bt 28 fs.length (fun _ => .slice none 0 0))
          case first =>
            as_aux_lemma =>
            go_region
            all_goals (go_wp2_with fail; go_meet; refine ⟨grownBy_drewN (grownBy_alloc (grownBy_alloc (grownBy_refl _ _) _) _) 1, ?_⟩)
            all_goals first | exact ⟨w6.heap.size, w6.heap.size + 1, rfl, rfl, by omega, by omega, by omega, rowIs_of_made (alloc2_both w6 _ _ 1).1, rowIs_of_made (alloc2_both w6 _ _ 1).2⟩ | exact ⟨w6.heap.size + 1, w6.heap.size, rfl, rfl, by omega, by omega, by omega, rowIs_of_made (alloc2_both w6 _ _ 1).2, rowIs_of_made (alloc2_both w6 _ _ 1).1⟩
          case rest =>
            obtain ⟨hg7, Bp, Bt, rfl, rfl, hQ1, hQ2, hQ3, hBp, hBt⟩ := hcut
            rename World => w7
            have hHC7 := HCT.out.grown hg7
            have hHS7 := HOW.out.kept hg7 (by cases hv : (u18 : Value).ownBlock <;> simp)
            have hb7 := hb.grown hg7 (by have := HB.out.size; omega) (fun k hk => by cases hk)
            have hBp7 := hBp.lt
            have hBt7 := hBt.lt
            have HC7 := Lib.hid hHC7; have HS7 := Lib.hid hHS7; have HB7 := Lib.hid hb7
            have hsz7 := hg7.size
            have HBP := Lib.hid hBp; have HBT := Lib.hid hBt; have HG7 := Lib.hid hg7
            clear hHC7 hHS7 hb7 hm hg7 hBp hBt
            go_wp2_with fail
            go_loopg [184] M (fun g cc W => ∃ m : Nat, m + g = M ∧ cc = .int .i64 m ∧ ∃ V : Nat → Value, Fr2 w7 W Bp Bt ∧ W.rowIs Bp 28 fs.length V ∧ W.rowIs Bt 28 fs.length (fun i => V (fs.length + i)) ∧
              Fam W 3 w7.heap.size (2 * fs.length) V (row2 t (promF fs t) (fC fs) fs.length m))
            case atStart => exact ⟨0, by omega, rfl, fun _ => .slice none 0 0, Fr2.refl _ _ _, HBP.out, HBT.out, (Fam.fresh _ _ _ _).congr (fun i _ => (row2_zero i).symm)⟩
            case round =>
              obtain ⟨m, hmk, rfl, V, hfr, hbp, hbt, hfam⟩ := hrel
              by_cases hlt : m < M
              · obtain ⟨n, rfl⟩ : ∃ n, gk = n + 1 := ⟨gk - 1, by omega⟩
                obtain ⟨gC, hcCe, hgC, hel⟩ := HCT.out.elem hlt
                cases hcCe
                have hec : wr.cell? ⟨gC, m, none⟩ = some (.pointer (some ⟨b m, 0, none⟩)) := by
                  rw [hfr.cell (by omega) (by omega) (by omega), HG7.out.cell (hel m hlt) (by simp)]
                have hbl := HCT.out.lt hlt
                obtain ⟨c0, c1, c2, c3, _, _⟩ := cellObj_cells (hfr.cells (HC7.out.cell m hlt) (by omega) (by omega))
                have hflF : flAt (fC fs) fs.length m < fs.length := by
                  obtain ⟨i, k, hi, hk, he⟩ := place_of (fC fs) fs.length m (by rw [← HM.out]; exact hlt)
                  rw [he, flAt_eq hk _ hi]; exact hi
                have hpc := hbp.cell hflF
                have htc := hbt.cell hflF
                clear hel
                go_upto_region 52 with fail
                as_aux_lemma =>
                refine wp_region_late (fun W => W.cell? ⟨b m, 0, none⟩ = some (.int .i64 (flAt (fC fs) fs.length m)) ∧ W.cell? ⟨b m, 2, none⟩ = some (.int .i64 (dueV (promF fs t) (fC fs) fs.length m)) ∧ W.cell? ⟨b m, 3, none⟩ = some (.int .i64 (thrV t (promF fs t) (fC fs) fs.length t m)) ∧
                  W.cell? ⟨Bp, flAt (fC fs) fs.length m, none⟩ = some (V (flAt (fC fs) fs.length m)) ∧ W.cell? ⟨Bt, flAt (fC fs) fs.length m, none⟩ = some (V (fs.length + flAt (fC fs) fs.length m))) [37] rfl ⟨by simpa using c0, by simpa using c2, by simpa using c3, by simpa using hpc, by simpa using htc⟩ (fun hHeld => ?_)
                refine wpAnyT_takeD (i := 0) (d := 188) (oi := _) (v := ?zv0) rfl rfl (by kernel_rfl) (fun _ _ _ h => h) (Or.inl ⟨by rfl, ?zy0⟩) (by assumption) ?zr0
                case zy0 => intro w hSw; (try dsimp only at hSw); go_split_ands; go_simp; try with_reducible rfl
                simp only [List.setIfInBounds_toArray, List.set_cons_zero, List.set_cons_succ]
                refine wpAnyT_takeD (i := 1) (d := 189) (oi := _) (v := ?zv1) rfl rfl (by kernel_rfl) (fun _ _ _ h => h) (Or.inl ⟨by rfl, ?zy1⟩) (by assumption) ?zr1
                case zy1 => intro w hSw; (try dsimp only at hSw); go_split_ands; go_simp; try with_reducible rfl
                simp only [List.setIfInBounds_toArray, List.set_cons_zero, List.set_cons_succ]
                refine wpAnyT_takeD (i := 2) (d := 190) (oi := _) (v := ?zv2) rfl rfl (by kernel_rfl) (fun _ _ _ h => h) (Or.inl ⟨by rfl, ?zy2⟩) (by assumption) ?zr2
                case zy2 => intro w hSw; (try dsimp only at hSw); go_split_ands; go_simp; try with_reducible rfl
                simp only [List.setIfInBounds_toArray, List.set_cons_zero, List.set_cons_succ]
                refine wpAnyT_takeD (i := 3) (d := 191) (oi := _) (v := ?zv3) rfl rfl (by kernel_rfl) (fun _ _ _ h => h) (Or.inl ⟨by rfl, ?zy3⟩) (by assumption) ?zr3
                case zy3 => intro w hSw; (try dsimp only at hSw); go_split_ands; go_simp; try with_reducible rfl
                simp only [List.setIfInBounds_toArray, List.set_cons_zero, List.set_cons_succ]
                refine wpAnyT_takeD (i := 4) (d := 192) (oi := _) (v := ?zv4) rfl rfl (by kernel_rfl) (fun _ _ _ h => h) (Or.inl ⟨by rfl, ?zy4⟩) (by assumption) ?zr4
                case zy4 => intro w hSw; (try dsimp only at hSw); go_split_ands; go_simp; try with_reducible rfl
                simp only [List.setIfInBounds_toArray, List.set_cons_zero, List.set_cons_succ]
                refine wpAnyT_takePD (i := 5) (d := 193) (oi := _) (v := ?zv5) rfl rfl (by kernel_rfl) (fun _ _ _ h => h) (Or.inl ⟨by rfl, ?zy5⟩) (by assumption) ?zr5
                case zy5 => intro w hSw; go_simp; try with_reducible rfl
                simp only [List.setIfInBounds_toArray, List.set_cons_zero, List.set_cons_succ]
                refine wpAnyT_takeD (i := 6) (d := 194) (oi := _) (v := ?zv6) rfl rfl (by kernel_rfl) (fun _ _ _ h => h) (Or.inl ⟨by rfl, ?zy6⟩) (by assumption) ?zr6
                case zy6 => intro w hSw; (try dsimp only at hSw); go_split_ands; go_simp; try with_reducible rfl
                simp only [List.setIfInBounds_toArray, List.set_cons_zero, List.set_cons_succ]
                refine wpAnyT_takeD (i := 7) (d := 195) (oi := _) (v := ?zv7) rfl rfl (by kernel_rfl) (fun _ _ _ h => h) (Or.inl ⟨by rfl, ?zy7⟩) (by assumption) ?zr7
                case zy7 => intro w hSw; (try dsimp only at hSw); go_split_ands; go_simp; try with_reducible rfl
                simp only [List.setIfInBounds_toArray, List.set_cons_zero, List.set_cons_succ]
                refine wpAnyT_takeD (i := 8) (d := 196) (oi := _) (v := ?zv8) rfl rfl (by kernel_rfl) (fun _ _ _ h => h) (Or.inl ⟨by rfl, ?zy8⟩) (by assumption) ?zr8
                case zy8 => intro w hSw; (try dsimp only at hSw); go_split_ands; go_simp; try with_reducible rfl
                simp only [List.setIfInBounds_toArray, List.set_cons_zero, List.set_cons_succ]
                refine wpAnyT_takeD (i := 9) (d := 197) (oi := _) (v := ?zv9) rfl rfl (by kernel_rfl) (fun _ _ _ h => h) (Or.inl ⟨by rfl, ?zy9⟩) (by assumption) ?zr9
                case zy9 => intro w hSw; (try dsimp only at hSw); go_split_ands; go_simp; try with_reducible rfl
                simp only [List.setIfInBounds_toArray, List.set_cons_zero, List.set_cons_succ]
                refine wpAnyT_takeD (i := 10) (d := 198) (oi := _) (v := ?zv10) rfl rfl (by kernel_rfl) (fun _ _ _ h => h) (Or.inl ⟨by rfl, ?zy10⟩) (by assumption) ?zr10
                case zy10 => intro w hSw; (try dsimp only at hSw); go_split_ands; go_simp; try with_reducible rfl
                simp only [List.setIfInBounds_toArray, List.set_cons_zero, List.set_cons_succ]
                refine wpAnyT_takeD (i := 11) (d := 199) (oi := _) (v := ?zv11) rfl rfl (by kernel_rfl) (fun _ _ _ h => h) (Or.inl ⟨by rfl, ?zy11⟩) (by assumption) ?zr11
                case zy11 => intro w hSw; (try dsimp only at hSw); go_split_ands; go_simp; try with_reducible rfl
                simp only [List.setIfInBounds_toArray, List.set_cons_zero, List.set_cons_succ]
                refine wpAnyT_takeD (i := 12) (d := 200) (oi := _) (v := ?zv12) rfl rfl (by kernel_rfl) (fun _ _ _ h => h) (Or.inl ⟨by rfl, ?zy12⟩) (by assumption) ?zr12
                case zy12 => intro w hSw; (try dsimp only at hSw); go_split_ands; go_simp; try with_reducible rfl
                simp only [List.setIfInBounds_toArray, List.set_cons_zero, List.set_cons_succ]
                refine wpAnyT_takeD (i := 13) (d := 201) (oi := _) (v := ?zv13) rfl rfl (by kernel_rfl) (fun _ _ _ h => h) (Or.inl ⟨by rfl, ?zy13⟩) (by assumption) ?zr13
                case zy13 => intro w hSw; (try dsimp only at hSw); go_split_ands; go_simp; try with_reducible rfl
                simp only [List.setIfInBounds_toArray, List.set_cons_zero, List.set_cons_succ]
                refine wpAnyT_takeD (i := 14) (d := 202) (oi := _) (v := ?zv14) rfl rfl (by kernel_rfl) (fun _ _ _ h => h) (Or.inl ⟨by rfl, ?zy14⟩) (by assumption) ?zr14
                case zy14 => intro w hSw; (try dsimp only at hSw); go_split_ands; go_simp; try with_reducible rfl
                simp only [List.setIfInBounds_toArray, List.set_cons_zero, List.set_cons_succ]
                refine wpAnyT_takeD (i := 15) (d := 203) (oi := _) (v := ?zv15) rfl rfl (by kernel_rfl) (fun _ _ _ h => h) (Or.inl ⟨by rfl, ?zy15⟩) (by assumption) ?zr15
                case zy15 => intro w hSw; (try dsimp only at hSw); go_split_ands; go_simp; try with_reducible rfl
                simp only [List.setIfInBounds_toArray, List.set_cons_zero, List.set_cons_succ]
                refine wpAnyT_takeD (i := 16) (d := 204) (oi := _) (v := ?zv16) rfl rfl (by kernel_rfl) (fun _ _ _ h => h) (Or.inl ⟨by rfl, ?zy16⟩) (by assumption) ?zr16
                case zy16 => intro w hSw; (try dsimp only at hSw); go_split_ands; go_simp; try with_reducible rfl
                simp only [List.setIfInBounds_toArray, List.set_cons_zero, List.set_cons_succ]
                refine wpAnyT_takeD (i := 17) (d := 205) (oi := _) (v := ?zv17) rfl rfl (by kernel_rfl) (fun _ _ _ h => h) (Or.inl ⟨by rfl, ?zy17⟩) (by assumption) ?zr17
                case zy17 => intro w hSw; (try dsimp only at hSw); go_split_ands; go_simp; try with_reducible rfl
                simp only [List.setIfInBounds_toArray, List.set_cons_zero, List.set_cons_succ]
                refine wpAnyT_takeD (i := 18) (d := 206) (oi := _) (v := ?zv18) rfl rfl (by kernel_rfl) (fun _ _ _ h => h) (Or.inl ⟨by rfl, ?zy18⟩) (by assumption) ?zr18
                case zy18 => intro w hSw; (try dsimp only at hSw); go_split_ands; go_simp; try with_reducible rfl
                simp only [List.setIfInBounds_toArray, List.set_cons_zero, List.set_cons_succ]
                refine wpAnyT_takeD (i := 19) (d := 207) (oi := _) (v := ?zv19) rfl rfl (by kernel_rfl) (fun _ _ _ h => h) (Or.inl ⟨by rfl, ?zy19⟩) (by assumption) ?zr19
                case zy19 => intro w hSw; (try dsimp only at hSw); go_split_ands; go_simp; try with_reducible rfl
                simp only [List.setIfInBounds_toArray, List.set_cons_zero, List.set_cons_succ]
                refine wpAnyT_takeD (i := 20) (d := 208) (oi := _) (v := ?zv20) rfl rfl (by kernel_rfl) (fun _ _ _ h => h) (Or.inl ⟨by rfl, ?zy20⟩) (by assumption) ?zr20
                case zy20 => intro w hSw; (try dsimp only at hSw); go_split_ands; go_simp; try with_reducible rfl
                simp only [List.setIfInBounds_toArray, List.set_cons_zero, List.set_cons_succ]
                refine wpAnyT_takeD (i := 23) (d := 211) (oi := _) (v := ?zv23) rfl rfl (by kernel_rfl) (fun _ _ _ h => h) (Or.inl ⟨by rfl, ?zy23⟩) (by assumption) ?zr23
                case zy23 => intro w hSw; (try dsimp only at hSw); go_split_ands; go_simp; try with_reducible rfl
                simp only [List.setIfInBounds_toArray, List.set_cons_zero, List.set_cons_succ]
                refine wpAnyT_takeD (i := 24) (d := 212) (oi := _) (v := ?zv24) rfl rfl (by kernel_rfl) (fun _ _ _ h => h) (Or.inl ⟨by rfl, ?zy24⟩) (by assumption) ?zr24
                case zy24 => intro w hSw; (try dsimp only at hSw); go_split_ands; go_simp; try with_reducible rfl
                simp only [List.setIfInBounds_toArray, List.set_cons_zero, List.set_cons_succ]
                refine wpAnyT_takeD (i := 25) (d := 213) (oi := _) (v := ?zv25) rfl rfl (by kernel_rfl) (fun _ _ _ h => h) (Or.inl ⟨by rfl, ?zy25⟩) (by assumption) ?zr25
                case zy25 => intro w hSw; (try dsimp only at hSw); go_split_ands; go_simp; try with_reducible rfl
                simp only [List.setIfInBounds_toArray, List.set_cons_zero, List.set_cons_succ]
                refine wpAnyT_takeD (i := 26) (d := 214) (oi := _) (v := ?zv26) rfl rfl (by kernel_rfl) (fun _ _ _ h => h) (Or.inl ⟨by rfl, ?zy26⟩) (by assumption) ?zr26
                case zy26 => intro w hSw; (try dsimp only at hSw); go_split_ands; go_simp; try with_reducible rfl
                simp only [List.setIfInBounds_toArray, List.set_cons_zero, List.set_cons_succ]
                refine wpAnyT_takeD (i := 27) (d := 215) (oi := _) (v := ?zv27) rfl rfl (by kernel_rfl) (fun _ _ _ h => h) (Or.inl ⟨by rfl, ?zy27⟩) (by assumption) ?zr27
                case zy27 => intro w hSw; (try dsimp only at hSw); go_split_ands; go_simp; try with_reducible rfl
                simp only [List.setIfInBounds_toArray, List.set_cons_zero, List.set_cons_succ]
                refine wpAnyT_takeD (i := 28) (d := 216) (oi := _) (v := ?zv28) rfl rfl (by kernel_rfl) (fun _ _ _ h => h) (Or.inl ⟨by rfl, ?zy28⟩) (by assumption) ?zr28
                case zy28 => intro w hSw; (try dsimp only at hSw); go_split_ands; go_simp; try with_reducible rfl
                simp only [List.setIfInBounds_toArray, List.set_cons_zero, List.set_cons_succ]
                refine wpAnyT_takeD (i := 29) (d := 217) (oi := _) (v := ?zv29) rfl rfl (by kernel_rfl) (fun _ _ _ h => h) (Or.inl ⟨by rfl, ?zy29⟩) (by assumption) ?zr29
                case zy29 => intro w hSw; (try dsimp only at hSw); go_split_ands; go_simp; try with_reducible rfl
                simp only [List.setIfInBounds_toArray, List.set_cons_zero, List.set_cons_succ]
                refine wpAnyT_takeD (i := 30) (d := 218) (oi := _) (v := ?zv30) rfl rfl (by kernel_rfl) (fun _ _ _ h => h) (Or.inl ⟨by rfl, ?zy30⟩) (by assumption) ?zr30
                case zy30 => intro w hSw; (try dsimp only at hSw); go_split_ands; go_simp; try with_reducible rfl
                simp only [List.setIfInBounds_toArray, List.set_cons_zero, List.set_cons_succ]
                refine wpAnyT_takeD (i := 31) (d := 219) (oi := _) (v := ?zv31) rfl rfl (by kernel_rfl) (fun _ _ _ h => h) (Or.inl ⟨by rfl, ?zy31⟩) (by assumption) ?zr31
                case zy31 => intro w hSw; (try dsimp only at hSw); go_split_ands; go_simp; try with_reducible rfl
                simp only [List.setIfInBounds_toArray, List.set_cons_zero, List.set_cons_succ]
                refine wpAnyT_takeD (i := 32) (d := 220) (oi := _) (v := ?zv32) rfl rfl (by kernel_rfl) (fun _ _ _ h => h) (Or.inl ⟨by rfl, ?zy32⟩) (by assumption) ?zr32
                case zy32 => intro w hSw; (try dsimp only at hSw); go_split_ands; go_simp; try with_reducible rfl
                simp only [List.setIfInBounds_toArray, List.set_cons_zero, List.set_cons_succ]
                refine wpAnyT_takeD (i := 33) (d := 221) (oi := _) (v := ?zv33) rfl rfl (by kernel_rfl) (fun _ _ _ h => h) (Or.inl ⟨by rfl, ?zy33⟩) (by assumption) ?zr33
                case zy33 => intro w hSw; (try dsimp only at hSw); go_split_ands; go_simp; try with_reducible rfl
                simp only [List.setIfInBounds_toArray, List.set_cons_zero, List.set_cons_succ]
                refine wpAnyT_listed (l := #[true, true, true, true, true, true, true, true, true, true, true, true, true, true, true, true, true, true, true, true, true, false, false, true, true, true, true, true, true, true, true, true, true, true, false, false, false, false, false, false]) (by kernel_rfl) ?_
                have hls0 : LS w7 wr.drew Bp Bt fs.length V V (row2 t (promF fs t) (fC fs) fs.length m) := LS.drew ⟨hfr, hbp, hbt, hfam, hBp7, hBt7, hQ3⟩
                have HSH : Hid (∀ W V' L', LS w7 W Bp Bt fs.length V V' L' → (W.cell? ⟨b m, 0, none⟩ = some (.int .i64 (flAt (fC fs) fs.length m)) ∧ W.cell? ⟨b m, 2, none⟩ = some (.int .i64 (dueV (promF fs t) (fC fs) fs.length m)) ∧ W.cell? ⟨b m, 3, none⟩ = some (.int .i64 (thrV t (promF fs t) (fC fs) fs.length t m)) ∧ W.cell? ⟨Bp, flAt (fC fs) fs.length m, none⟩ = some (V (flAt (fC fs) fs.length m)) ∧ W.cell? ⟨Bt, flAt (fC fs) fs.length m, none⟩ = some (V (fs.length + flAt (fC fs) fs.length m)))) := Lib.hid (fun W V' L' h => by
                  obtain ⟨k0, _, k2, k3, _, _⟩ := cellObj_cells (h.fr.cells (HC7.out.cell m hlt) (by omega) (by omega))
                  exact ⟨k0, k2, k3, h.p.cell hflF, h.q.cell hflF⟩)
                clear hfr hbp hbt hfam c0 c1 c2 c3 hpc htc hHeld hec
                refine wpAnyT_forget (fun W => LS w7 W Bp Bt fs.length V V (row2 t (promF fs t) (fC fs) fs.length m)) hls0 ?_
                clear hls0
                intro W1 hls1
                refine wpAnyT_ready (rs := [21, 34]) (by kernel_rfl) (by simp) (AllReadyT.cons rfl (fun K2 hK2 => ?_) (AllReadyT.cons rfl (fun K2 hK2 => ?_) AllReadyT.nil))
                ·
                  go_simp
                  refine hK2.out _ _ (HSH.out _ _ _ (hls1.alloc _)) (fun _ => ?_)
                  refine wpAnyT_forget (fun W => LS w7 W Bp Bt fs.length V V (row2 t (promF fs t) (fC fs) fs.length m) ∧ Src W fs.length V W1.heap.size (dueV (promF fs t) (fC fs) fs.length m)) ⟨hls1.alloc _, Src.new hls1 _⟩ ?_
                  rintro W2 ⟨hls2, hsd2⟩
                  refine wpAnyT_ready (rs := [22, 34]) (by kernel_rfl) (by simp) (AllReadyT.cons rfl (fun K2 hK2 => ?_) (AllReadyT.cons rfl (fun K2 hK2 => ?_) AllReadyT.nil))
                  ·
                    refine step_append_src rfl (.tmp 204) (.tmp 209) 28 rfl Tryd.underlying28 infoInt hls2 hsd2 (i := (flAt (fC fs) fs.length m)) (by omega) (by rfl) (by rfl) (Nat.le_trans (row2_len _ _) (by omega)) ?_
                    intro g1 n1 W3 hls3 hsr
                    clear hsr
                    simp only [Act.put, List.setIfInBounds_toArray]
                    refine hK2.out _ _ (HSH.out _ _ _ hls3) (fun _ => ?_)
                    refine wpAnyT_ready (rs := [34]) (by kernel_rfl) (by simp) (AllReadyT.cons rfl (fun K2 hK2 => ?_) AllReadyT.nil)
                    go_simp
                    refine hK2.out _ _ (HSH.out _ _ _ (hls3.alloc _)) (fun _ => ?_)
                    refine wpAnyT_forget (fun W => LS w7 W Bp Bt fs.length V (upd V (flAt (fC fs) fs.length m) (.slice (some ⟨g1, 0, none⟩) ((row2 t (promF fs t) (fC fs) fs.length m (flAt (fC fs) fs.length m)).length + 1) n1)) (upd (row2 t (promF fs t) (fC fs) fs.length m) (flAt (fC fs) fs.length m) (row2 t (promF fs t) (fC fs) fs.length m (flAt (fC fs) fs.length m) ++ [(dueV (promF fs t) (fC fs) fs.length m)])) ∧ Src W fs.length (upd V (flAt (fC fs) fs.length m) (.slice (some ⟨g1, 0, none⟩) ((row2 t (promF fs t) (fC fs) fs.length m (flAt (fC fs) fs.length m)).length + 1) n1)) W3.heap.size (thrV t (promF fs t) (fC fs) fs.length t m)) ⟨hls3.alloc _, Src.new hls3 _⟩ ?_
                    rintro W4 ⟨hls4, hst4⟩
                    refine wpAnyT_ready (rs := [35]) (by kernel_rfl) (by simp) (AllReadyT.cons rfl (fun K2 hK2 => ?_) AllReadyT.nil)
                    refine step_append_src rfl (.tmp 217) (.tmp 222) 28 rfl Tryd.underlying28 infoInt hls4 hst4 (i := fs.length + (flAt (fC fs) fs.length m)) (by omega) (by rw [upd_off (by omega)]; rfl) (by rfl) (by rw [upd_off (by omega)]; exact Nat.le_trans (row2_len _ _) (by omega)) ?_
                    intro g2 n2 W5 hls5 hsr
                    simp only [Act.put, List.setIfInBounds_toArray]
                    refine hK2.out _ _ (HSH.out _ _ _ hls5) (fun _ => ?_)
                    refine wpAnyT_ready (rs := [36]) (by kernel_rfl) (by simp) (AllReadyT.cons rfl (fun K2 hK2 => ?_) AllReadyT.nil)
                    go_simp
                    refine hK2.out _ _ (HSH.out _ _ _ hls5) (fun _ => ?_)
                    have e1 := hls5.p.cell hflF
                    have e2 := hls5.p.frozen (flAt (fC fs) fs.length m)
                    have e3 := (hls5.q.setOther (a := ⟨Bp, (flAt (fC fs) fs.length m), none⟩) (Ne.symm hQ3) (.slice (some ⟨g1, 0, none⟩) ((row2 t (promF fs t) (fC fs) fs.length m (flAt (fC fs) fs.length m)).length + 1) n1)).cell hflF
                    have e4 := (hls5.q.setOther (a := ⟨Bp, (flAt (fC fs) fs.length m), none⟩) (Ne.symm hQ3) (.slice (some ⟨g1, 0, none⟩) ((row2 t (promF fs t) (fC fs) fs.length m (flAt (fC fs) fs.length m)).length + 1) n1)).frozen (flAt (fC fs) fs.length m)
                    refine wpAnyT_ready (rs := [37]) (by kernel_rfl) (by simp) (AllReadyT.last (t := 37) rfl (by simp) (by kernel_rfl) (fun K2 hK2 => ?_) AllReadyT.nil)
                    go_simp
                    refine hK2.out _ _ ?_
                    refine wpAnyT_ready (rs := [38]) (by kernel_rfl) (by simp) (AllReadyT.last (t := 37) rfl (by simp) (by kernel_rfl) (fun K2 hK2 => ?_) AllReadyT.nil)
                    go_simp
                    refine hK2.out _ _ ?_
                    refine wpAnyT_ready (rs := [39]) (by kernel_rfl) (by simp) (AllReadyT.last (t := 37) rfl (by simp) (by kernel_rfl) (fun K2 hK2 => ?_) AllReadyT.nil)
                    go_simp
                    refine hK2.out _ _ ?_
                    refine wpAnyT_done (by kernel_rfl) ?_ _
                    have HST := Lib.hid (hls5.stored hflF (by rw [upd_off (by omega), upd_at]) (upd_at _ _ _) (fun j _ h1 h2 => by rw [upd_off h2, upd_off h1]))
                    clear hls5 e1 e2 e3 e4
                    go_wp2
                    go_roundg n
                    case measure => omega
                    case rel =>
                      refine ⟨m + 1, by omega, by go_num, _, HST.out.fr, HST.out.p, HST.out.q, HST.out.fam.congr (fun j hj => ?_)⟩
                      rw [upd_off (show fs.length + (flAt (fC fs) fs.length m) ≠ (flAt (fC fs) fs.length m) by omega)]
                      exact row2_next (fun i _ => by simp [promF, promL, dueL]) (fun i hi => by rw [thrL_length]; exact stS_cells HCO.out _ hi) (by rw [← HM.out]; exact hlt) hj
                  ·
                    go_simp
                    refine hK2.out _ _ (HSH.out _ _ _ (hls2.alloc _)) (fun _ => ?_)
                    refine wpAnyT_forget (fun W => LS w7 W Bp Bt fs.length V V (row2 t (promF fs t) (fC fs) fs.length m) ∧ Src W fs.length V W1.heap.size (dueV (promF fs t) (fC fs) fs.length m) ∧ Src W fs.length V W2.heap.size (thrV t (promF fs t) (fC fs) fs.length t m)) ⟨hls2.alloc _, hsd2.alloc _, Src.new hls2 _⟩ ?_
                    rintro W3 ⟨hls3, hsd3, hst3⟩
                    refine wpAnyT_ready (rs := [22]) (by kernel_rfl) (by simp) (AllReadyT.cons rfl (fun K2 hK2 => ?_) AllReadyT.nil)
                    refine step_append_src rfl (.tmp 204) (.tmp 209) 28 rfl Tryd.underlying28 infoInt hls3 hsd3 (i := (flAt (fC fs) fs.length m)) (by omega) (by rfl) (by rfl) (Nat.le_trans (row2_len _ _) (by omega)) ?_
                    intro g1 n1 W4 hls4 hsr
                    have hst4 := hsr _ _ hst3
                    simp only [Act.put, List.setIfInBounds_toArray]
                    refine hK2.out _ _ (HSH.out _ _ _ hls4) (fun _ => ?_)
                    refine wpAnyT_ready (rs := [35]) (by kernel_rfl) (by simp) (AllReadyT.cons rfl (fun K2 hK2 => ?_) AllReadyT.nil)
                    refine step_append_src rfl (.tmp 217) (.tmp 222) 28 rfl Tryd.underlying28 infoInt hls4 hst4 (i := fs.length + (flAt (fC fs) fs.length m)) (by omega) (by rw [upd_off (by omega)]; rfl) (by rfl) (by rw [upd_off (by omega)]; exact Nat.le_trans (row2_len _ _) (by omega)) ?_
                    intro g2 n2 W5 hls5 hsr
                    simp only [Act.put]
                    refine hK2.out _ _ (HSH.out _ _ _ hls5) (fun _ => ?_)
                    refine wpAnyT_ready (rs := [36]) (by kernel_rfl) (by simp) (AllReadyT.cons rfl (fun K2 hK2 => ?_) AllReadyT.nil)
                    go_simp
                    refine hK2.out _ _ (HSH.out _ _ _ hls5) (fun _ => ?_)
                    have e1 := hls5.p.cell hflF
                    have e2 := hls5.p.frozen (flAt (fC fs) fs.length m)
                    have e3 := (hls5.q.setOther (a := ⟨Bp, (flAt (fC fs) fs.length m), none⟩) (Ne.symm hQ3) (.slice (some ⟨g1, 0, none⟩) ((row2 t (promF fs t) (fC fs) fs.length m (flAt (fC fs) fs.length m)).length + 1) n1)).cell hflF
                    have e4 := (hls5.q.setOther (a := ⟨Bp, (flAt (fC fs) fs.length m), none⟩) (Ne.symm hQ3) (.slice (some ⟨g1, 0, none⟩) ((row2 t (promF fs t) (fC fs) fs.length m (flAt (fC fs) fs.length m)).length + 1) n1)).frozen (flAt (fC fs) fs.length m)
                    refine wpAnyT_ready (rs := [37]) (by kernel_rfl) (by simp) (AllReadyT.last (t := 37) rfl (by simp) (by kernel_rfl) (fun K2 hK2 => ?_) AllReadyT.nil)
                    go_simp
                    refine hK2.out _ _ ?_
                    refine wpAnyT_ready (rs := [38]) (by kernel_rfl) (by simp) (AllReadyT.last (t := 37) rfl (by simp) (by kernel_rfl) (fun K2 hK2 => ?_) AllReadyT.nil)
                    go_simp
                    refine hK2.out _ _ ?_
                    refine wpAnyT_ready (rs := [39]) (by kernel_rfl) (by simp) (AllReadyT.last (t := 37) rfl (by simp) (by kernel_rfl) (fun K2 hK2 => ?_) AllReadyT.nil)
                    go_simp
                    refine hK2.out _ _ ?_
                    refine wpAnyT_done (by kernel_rfl) ?_ _
                    have HST := Lib.hid (hls5.stored hflF (by rw [upd_off (by omega), upd_at]) (upd_at _ _ _) (fun j _ h1 h2 => by rw [upd_off h2, upd_off h1]))
                    clear hls5 e1 e2 e3 e4
                    go_wp2
                    go_roundg n
                    case measure => omega
                    case rel =>
                      refine ⟨m + 1, by omega, by go_num, _, HST.out.fr, HST.out.p, HST.out.q, HST.out.fam.congr (fun j hj => ?_)⟩
                      rw [upd_off (show fs.length + (flAt (fC fs) fs.length m) ≠ (flAt (fC fs) fs.length m) by omega)]
                      exact row2_next (fun i _ => by simp [promF, promL, dueL]) (fun i hi => by rw [thrL_length]; exact stS_cells HCO.out _ hi) (by rw [← HM.out]; exact hlt) hj
                ·
                  go_simp
                  refine hK2.out _ _ (HSH.out _ _ _ (hls1.alloc _)) (fun _ => ?_)
                  refine wpAnyT_forget (fun W => LS w7 W Bp Bt fs.length V V (row2 t (promF fs t) (fC fs) fs.length m) ∧ Src W fs.length V W1.heap.size (thrV t (promF fs t) (fC fs) fs.length t m)) ⟨hls1.alloc _, Src.new hls1 _⟩ ?_
                  rintro W2 ⟨hls2, hst2⟩
                  refine wpAnyT_ready (rs := [21]) (by kernel_rfl) (by simp) (AllReadyT.cons rfl (fun K2 hK2 => ?_) AllReadyT.nil)
                  go_simp
                  refine hK2.out _ _ (HSH.out _ _ _ (hls2.alloc _)) (fun _ => ?_)
                  refine wpAnyT_forget (fun W => LS w7 W Bp Bt fs.length V V (row2 t (promF fs t) (fC fs) fs.length m) ∧ Src W fs.length V W1.heap.size (thrV t (promF fs t) (fC fs) fs.length t m) ∧ Src W fs.length V W2.heap.size (dueV (promF fs t) (fC fs) fs.length m)) ⟨hls2.alloc _, hst2.alloc _, Src.new hls2 _⟩ ?_
                  rintro W3 ⟨hls3, hst3, hsd3⟩
                  refine wpAnyT_ready (rs := [22]) (by kernel_rfl) (by simp) (AllReadyT.cons rfl (fun K2 hK2 => ?_) AllReadyT.nil)
                  refine step_append_src rfl (.tmp 204) (.tmp 209) 28 rfl Tryd.underlying28 infoInt hls3 hsd3 (i := (flAt (fC fs) fs.length m)) (by omega) (by rfl) (by rfl) (Nat.le_trans (row2_len _ _) (by omega)) ?_
                  intro g1 n1 W4 hls4 hsr
                  have hst4 := hsr _ _ hst3
                  simp only [Act.put, List.setIfInBounds_toArray]
                  refine hK2.out _ _ (HSH.out _ _ _ hls4) (fun _ => ?_)
                  refine wpAnyT_ready (rs := [35]) (by kernel_rfl) (by simp) (AllReadyT.cons rfl (fun K2 hK2 => ?_) AllReadyT.nil)
                  refine step_append_src rfl (.tmp 217) (.tmp 222) 28 rfl Tryd.underlying28 infoInt hls4 hst4 (i := fs.length + (flAt (fC fs) fs.length m)) (by omega) (by rw [upd_off (by omega)]; rfl) (by rfl) (by rw [upd_off (by omega)]; exact Nat.le_trans (row2_len _ _) (by omega)) ?_
                  intro g2 n2 W5 hls5 hsr
                  simp only [Act.put]
                  refine hK2.out _ _ (HSH.out _ _ _ hls5) (fun _ => ?_)
                  refine wpAnyT_ready (rs := [36]) (by kernel_rfl) (by simp) (AllReadyT.cons rfl (fun K2 hK2 => ?_) AllReadyT.nil)
                  go_simp
                  refine hK2.out _ _ (HSH.out _ _ _ hls5) (fun _ => ?_)
                  have e1 := hls5.p.cell hflF
                  have e2 := hls5.p.frozen (flAt (fC fs) fs.length m)
                  have e3 := (hls5.q.setOther (a := ⟨Bp, (flAt (fC fs) fs.length m), none⟩) (Ne.symm hQ3) (.slice (some ⟨g1, 0, none⟩) ((row2 t (promF fs t) (fC fs) fs.length m (flAt (fC fs) fs.length m)).length + 1) n1)).cell hflF
                  have e4 := (hls5.q.setOther (a := ⟨Bp, (flAt (fC fs) fs.length m), none⟩) (Ne.symm hQ3) (.slice (some ⟨g1, 0, none⟩) ((row2 t (promF fs t) (fC fs) fs.length m (flAt (fC fs) fs.length m)).length + 1) n1)).frozen (flAt (fC fs) fs.length m)
                  refine wpAnyT_ready (rs := [37]) (by kernel_rfl) (by simp) (AllReadyT.last (t := 37) rfl (by simp) (by kernel_rfl) (fun K2 hK2 => ?_) AllReadyT.nil)
                  go_simp
                  refine hK2.out _ _ ?_
                  refine wpAnyT_ready (rs := [38]) (by kernel_rfl) (by simp) (AllReadyT.last (t := 37) rfl (by simp) (by kernel_rfl) (fun K2 hK2 => ?_) AllReadyT.nil)
                  go_simp
                  refine hK2.out _ _ ?_
                  refine wpAnyT_ready (rs := [39]) (by kernel_rfl) (by simp) (AllReadyT.last (t := 37) rfl (by simp) (by kernel_rfl) (fun K2 hK2 => ?_) AllReadyT.nil)
                  go_simp
                  refine hK2.out _ _ ?_
                  refine wpAnyT_done (by kernel_rfl) ?_ _
                  have HST := Lib.hid (hls5.stored hflF (by rw [upd_off (by omega), upd_at]) (upd_at _ _ _) (fun j _ h1 h2 => by rw [upd_off h2, upd_off h1]))
                  clear hls5 e1 e2 e3 e4
                  go_wp2
                  go_roundg n
                  case measure => omega
                  case rel =>
                    refine ⟨m + 1, by omega, by go_num, _, HST.out.fr, HST.out.p, HST.out.q, HST.out.fam.congr (fun j hj => ?_)⟩
                    rw [upd_off (show fs.length + (flAt (fC fs) fs.length m) ≠ (flAt (fC fs) fs.length m) by omega)]
                    exact row2_next (fun i _ => by simp [promF, promL, dueL]) (fun i hi => by rw [thrL_length]; exact stS_cells HCO.out _ hi) (by rw [← HM.out]; exact hlt) hj
              · have hmM : m = M := by omega
                subst hmM
                as_aux_lemma =>
                have hrow := fun i (hi : i < fs.length) => row2_full (T := t) (D := promF fs t) (come := fC fs) (F := fs.length) (fun i _ => by simp [promF, promL, dueL]) (fun i hi => by
                  rw [thrL_length]; exact stS_cells HCO.out _ hi) hi
                have HROW := Lib.hid hrow; clear hrow
                have HFAM := Lib.hid hfam; clear hfam
                go_wp2
                refine bodyPost_ret (v := .tuple #[u18, .slice (some ⟨Bp, 0, none⟩) fs.length fs.length, .slice (some ⟨Bt, 0, none⟩) fs.length fs.length]) (by simp [results, Tryd.results6, go_sem]) rfl ?_
                have hfam := HFAM.out
                rw [HM.out] at hfam
                refine ⟨_, _, _, rfl, ?_, ?_, ?_, ?_⟩
                · have h1 : wr.ownsRow w1.heap.size 3 1 u18 (sentL t (promF fs t) (fC fs) fs.length t).length ((sentL t (promF fs t) (fC fs) fs.length t).map (Value.int .i64)) := hfr.owns HS7.out (fun k hk => by
                    have := (HOW.out.lt k hk).2
                    exact ⟨by omega, by omega⟩)
                  exact Ints.own h1
                · refine Lists.rows hbp hl (fun i hi => ?_)
                  have ho := hfam.1 i (by omega)
                  rw [(HROW.out i hi).1] at ho
                  exact Ints.own ho
                · refine Lists.rows hbt hl (fun i hi => ?_)
                  have ho := hfam.1 (fs.length + i) (by omega)
                  rw [(HROW.out i hi).2] at ho
                  exact Ints.own ho
                · exact HB7.out.trans (hfr.below (by have := HB7.out.size; omega) (by have := HB.out.size; omega) (by have := HB.out.size; omega))
end Go.Proofs.YtmljdgedndbipaaDoor
