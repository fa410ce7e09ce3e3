/-
  What is proved here: by when a flow's cells are promised, as the program reckons it (due; 10.2).
-/
import Derived.Test.YtmljdgedndbipaaDoorScedW3
import Derived.Deep.OwnRows
namespace Go.Proofs.YtmljdgedndbipaaDoor
open Go.RowKit

def DueP (w : World) (xs : List Int) (e : Ending) (w' : World) : Prop := ∃ v, e = .returned v ∧ Ints w' v xs ∧ Below w.heap.size w w' ∧ ∀ k, v.ownBlock = some k → w.heap.size ≤ k ∧ k < w'.heap.size

set_option maxHeartbeats 4000000 in
set_option maxRecDepth 100000 in
theorem due_any (vc vb : Value) (cs bs : List Int) (T : Nat) (w : World) (hvc : Ints w vc cs) (hvb : Ints w vb bs) (hcv : curveChk bs = 0) (hT1 : cs.length ≤ T) (hT2 : T < bs.length) (hcs : Come cs) :
    Calls Tryd.prog 16 #[.agg #[vc, vb], .int .i64 T] w (DueP w (promL cs bs T)) := by
  have hbs := Curve.of hcv
  have hT3 : T ≤ 200 := by have := hbs.2.1; omega
  have hmk := run_make_row' (P := Tryd.prog) 28 3 (.int .i64 0) 8 Tryd.underlying28 infoInt rfl .i64 .i64 (T + 1) (by omega) (by omega)
  rw [show ((T + 1 : Nat) : Int) = (T : Int) + 1 by omega] at hmk
  have hvc' := hvc
  obtain ⟨ac, cc, rfl, hlc, hcc⟩ := hvc'
  have HC := Lib.hid hcc; clear hcc
  have hbA : Below w.heap.size w ((w.alloc (.cells #[(.slice ac cs.length cc), vb] 46)).alloc (.cells (madeCells #[.int .i64 0] (T + 1)) 3)) := ((Below.refl _ _).alloc (Nat.le_refl _) _).alloc (by simp) _
  have hbk : ∀ w2, ((w.alloc (.cells #[(.slice ac cs.length cc), vb] 46)).alloc (.cells (madeCells #[.int .i64 0] (T + 1)) 3)).grownBy w2 (some (w.heap.size + 1)) →
      Below w.heap.size w w2 ∧ w.heap.size < w2.heap.size ∧ w2.cell? ⟨w.heap.size, 0, none⟩ = some (.slice ac cs.length cc) ∧ w2.cell? ⟨w.heap.size, 1, none⟩ = some vb := fun w2 hg => by
    have hsz : w.heap.size + 1 + 1 ≤ w2.heap.size := by have := hg.size; rw [size_alloc, size_alloc] at this; exact this
    refine ⟨hbA.grown hg (by rw [size_alloc, size_alloc]; omega) (fun k hk => by cases hk; omega), by omega, ?_, ?_⟩
    · refine hg.cell (a := ⟨w.heap.size, 0, none⟩) ?_ (by simp)
      rw [World.cell?_alloc_lt _ _ ⟨w.heap.size, 0, none⟩ (by simp)]; simp
    · refine hg.cell (a := ⟨w.heap.size, 1, none⟩) ?_ (by simp)
      rw [World.cell?_alloc_lt _ _ ⟨w.heap.size, 1, none⟩ (by simp)]; simp
  have HBK := Lib.hid hbk; have HBA := Lib.hid hbA; clear hbk hbA
  have hserve : ∀ w2, Below w.heap.size w w2 → Ints w2 (.slice (some ⟨w.heap.size + 1, 0, none⟩) (T + 1) (T + 1)) (padL cs (T + 1)) →
      Calls Tryd.prog 20 #[.slice (some ⟨w.heap.size + 1, 0, none⟩) (T + 1) (T + 1), vb] w2 (ServeP w2 (byL cs bs T) .nilIface) := fun w2 hb hp => by
    have h := OwnServe_any _ vb (padL cs (T + 1)) bs w2 hp (hvb.below hb (Nat.le_refl _)) hcv (by rw [padL_length (by omega)]; omega) hcs.pad
    rw [padL_length (by omega)] at h
    exact h
  have HS := Lib.hid hserve; clear hserve
  have HVC := Lib.hid hvc; have HCS := Lib.hid hcs
  clear hvb hcv hcs hbs hvc
  go_enter Tryd.func16, Tryd.ntmps16
  go_wp2_with (first | (refine wpList_copy_pad rfl _ _ 28 28 rfl 3 Tryd.underlying28 (by kernel_rfl) (w.heap.size + 1) (T + 1) cs (.slice ac cs.length cc) (by rfl) (by rfl) ?hv ?hg (by omega) (by omega) ?hm; case' hm => (intro w2 hcm hg2; obtain ⟨hb2, hsz2, hk0, hk1⟩ := HBK.out w2 hg2)) | (go_at_call 20; refine (HS.out _ hb2 hcm).mono ?_; rintro e w3 hsp; obtain ⟨by_, rfl, hby, hb3, _⟩ := hsp; obtain ⟨ay, cy, rfl, hly, hcy⟩ := hby; have HBY := Lib.hid hcy; clear hcy; have hk0' := (hb3.cell (p := ⟨w.heap.size, 0, none⟩) hsz2).trans hk0))
  case hv => exact HVC.out.below HBA.out (Nat.le_refl _)
  case hg => exact alloc2_get _ _ _
  have hb03 := hb2.trans (hb3.mono hb2.size)
  have hsz3 : w.heap.size < w3.heap.size := Nat.lt_of_lt_of_le hsz2 hb3.size
  have HB2 := Lib.hid hb2; clear hb2 hcm hk0 hk1
  go_loopg [9, 35] cs.length (fun g sm i ww => ww = w3 ∧ ∃ k : Nat, k + g = cs.length ∧ i = .int .i64 k ∧ sm = .int .i64 (pre cs k))
  case atStart => exact ⟨rfl, 0, by omega, rfl, rfl⟩
  case round =>
    obtain ⟨rfl, k, hk, rfl, rfl⟩ := hrel
    by_cases hlt : k < cs.length
    · obtain ⟨n, rfl⟩ : ∃ n, gk = n + 1 := ⟨gk - 1, by omega⟩
      obtain ⟨bc, oc, rfl, hcellc⟩ := HC.out (by omega)
      have hcw : bc < w.heap.size := World.block_lt_of_cell? w _ (hcellc k (by omega))
      have hck : wr.cell? ⟨bc, oc + k, none⟩ = some (.int .i64 (gi cs k)) := (hb03.cell (p := ⟨bc, oc + k, none⟩) hcw).trans (hcellc k hlt)
      have hin := HCS.out k hlt
      have hp := pre_bd HCS.out k (by omega)
      clear hcellc
      go_wp2
      go_roundg n
      case measure => omega
      case rel => exact ⟨rfl, k + 1, by omega, by go_num, rfl⟩
    · have hkk : k = cs.length := by omega
      have hpp := pre_bd HCS.out cs.length (Nat.le_refl _)
      have hsum : pre cs k = (cellsN cs : Int) := by rw [hkk, cellsN]; omega
      have HK := Lib.hid hkk; clear hkk
      rw [hsum]
      have HSM := Lib.hid hsum; clear hsum
      rename World => w4
      go_wp2
      obtain ⟨l, hl⟩ : ∃ l, l = byL cs bs T := ⟨_, rfl⟩
      have hll : l.length = T + 1 := by rw [hl]; exact serveL_length _ _ _
      have hprom : promL cs bs T = dueL l (cellsN cs) := by rw [promL, hl]
      have HPR := Lib.hid hprom; clear hprom
      have HBY2 := HBY
      rw [← hl] at HBY2 hly ⊢
      clear HBY
      have HLL := Lib.hid hll
      have hlb : l.length ≤ 201 := by omega
      clear hl hll
      have hown0 := World.ownsRow_nil w4 w4.heap.size 3 1
      have hcn : (cellsN cs : Int) ≤ 1000000000 := by
        have : (cs.length : Int) ≤ 201 := by omega
        unfold cellsN; omega
      clear hpp
      go_loopg [5, 12] (cellsN cs) (fun g o i ww => Below w4.heap.size w4 ww ∧ ∃ j : Nat, j + g = cellsN cs ∧ i = .int .i64 ((j : Int) + 1) ∧ ww.ownsRow w4.heap.size 3 1 o (dueL l j).length ((dueL l j).map (Value.int .i64)))
      case atStart => exact ⟨Below.refl _ _, 0, by omega, rfl, by simpa [dueL] using hown0⟩
      case round =>
        clear hown0
        obtain ⟨hbj, j, hj, rfl, hown⟩ := hrel
        by_cases hlt : j < cellsN cs
        · obtain ⟨n, rfl⟩ : ∃ n, gk = n + 1 := ⟨gk - 1, by omega⟩
          rename World => w5
          have hdj : decide ((j : Int) + 1 ≤ (cellsN cs : Int)) = true := by simp; omega
          go_wp2
          have hszj := hbj.size
          have HDL := Lib.hid (dueL_length l j)
          go_loopg [13, 50] l.length (fun g at_ i ww => ww = w5 ∧ ∃ t : Nat, t + g = l.length ∧ i = .int .i64 t ∧ at_ = .int .i64 (-1) ∧ dueAt l j = fstGe l ((j : Int) + 1) g t)
          case atStart => exact ⟨rfl, 0, by omega, rfl, rfl, rfl⟩
          case round =>
            obtain ⟨rfl, t, ht, rfl, rfl, hd⟩ := hrel
            have HD := Lib.hid hd; clear hd
            by_cases hltt : t < l.length
            · obtain ⟨m, rfl⟩ : ∃ m, gk = m + 1 := ⟨gk - 1, by omega⟩
              obtain ⟨bY, oY, rfl, hcelly⟩ := HBY2.out (by omega)
              have hyw : bY < w4.heap.size := World.block_lt_of_cell? w4 _ (hcelly t hltt)
              have hyt : wr.cell? ⟨bY, oY + t, none⟩ = some (.int .i64 (gi l t)) := (hbj.cell (p := ⟨bY, oY + t, none⟩) hyw).trans (hcelly t hltt)
              clear hcelly
              by_cases hge : (j : Int) + 1 ≤ gi l t
              · have hfin : dueAt l j = (t : Int) := by rw [HD.out, fstGe_yes hge]
                have HF := Lib.hid hfin; clear hfin
                go_wp2_with (at_builtin; refine wpList_append_int rfl _ _ 28 3 rfl Tryd.underlying28 infoInt w4.heap.size _ (dueL l j) rfl hown _ rfl (by rw [HDL.out]; omega) hszj ?_; intro v' w' hown' hgr)
                go_roundg n
                case measure => omega
                case rel => exact ⟨hbj.trans (grown_below hown hgr hszj), j + 1, by omega, by go_num, by rw [dueL_succ, HF.out]; exact hown'⟩
              · have hnew : fstGe l ((j : Int) + 1) (m + 1) t = fstGe l ((j : Int) + 1) m (t + 1) := fstGe_no hge
                have HN := Lib.hid hnew; clear hnew
                go_wp2
                go_roundg m
                case measure => omega
                case rel => exact ⟨rfl, t + 1, by omega, by go_num, rfl, by rw [HD.out, HN.out]⟩
            · have hfin : dueAt l j = -1 := by rw [HD.out, show gk = 0 by omega]; rfl
              have HF := Lib.hid hfin; clear hfin
              go_wp2_with (at_builtin; refine wpList_append_int rfl _ _ 28 3 rfl Tryd.underlying28 infoInt w4.heap.size _ (dueL l j) rfl hown _ rfl (by rw [HDL.out]; omega) hszj ?_; intro v' w' hown' hgr)
              go_roundg n
              case measure => omega
              case rel => exact ⟨hbj.trans (grown_below hown hgr hszj), j + 1, by omega, by go_num, by rw [dueL_succ, HF.out]; exact hown'⟩
        · have hjj : j = cellsN cs := by omega
          have HJ := Lib.hid hjj; clear hjj
          go_wp2
          go_ret
          exact ⟨_, rfl, by rw [HPR.out, ← HJ.out]; exact Ints.own hown, hb03.trans (hbj.mono hb03.size), fun k hk => ⟨Nat.le_trans hb03.size (hown.lt k hk).1, (hown.lt k hk).2⟩⟩
end Go.Proofs.YtmljdgedndbipaaDoor
