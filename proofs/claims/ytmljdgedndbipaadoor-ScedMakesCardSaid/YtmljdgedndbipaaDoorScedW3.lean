/-
  What is proved here: Serve (3.3), of the document's reference and of the program, where it does not refuse.
-/
import Derived.Test.YtmljdgedndbipaaDoorScedW1
import Derived.Lib.MinMax
namespace Go.Proofs.YtmljdgedndbipaaDoor
open Go.RowKit

theorem infoInt : (Tryd.prog.info? 3).map (fun i => (i.zero, i.size, i.bytes)) = some (some (.int .i64 0), 1, 8) := by kernel_rfl

def ServeP (w : World) (xs : List Int) (ev : Value) (e : Ending) (w' : World) : Prop :=
  ∃ v, e = .returned (.tuple #[v, ev]) ∧ Ints w' v xs ∧ Below w.heap.size w w' ∧ ∀ k, v.ownBlock = some k → w.heap.size ≤ k

set_option maxHeartbeats 4000000 in
set_option maxRecDepth 100000 in
theorem RefServe_any (vc vb : Value) (cs bs : List Int) (w : World) (hvc : Ints w vc cs) (hvb : Ints w vb bs) (hcv : curveChk bs = 0) (hlen : cs.length ≤ bs.length) (hcs : Come cs) :
    Calls Tryd.prog 13 #[vc, vb] w (ServeP w (serveL cs bs cs.length) (.int .i64 0)) := by
  have hbs := Curve.of hcv
  have hCC := Lib.hid (CurveCheck_any vb bs w hvb)
  rw [hcv] at hCC
  obtain ⟨ac, cc, rfl, hlc, hcc⟩ := hvc
  obtain ⟨ab, cb, rfl, hlb, hcb⟩ := hvb
  obtain ⟨hb1, hb2, hb3⟩ := hbs
  obtain ⟨bb, ob, rfl, hcellb⟩ := hcb (by omega)
  have HB := Lib.hid hcellb
  have HC := Lib.hid hcc
  have HB3 := Lib.hid hb3
  have HCS := Lib.hid hcs
  have HCV := Lib.hid hcv
  have hbw : bb < w.heap.size := World.block_lt_of_cell? w _ (hcellb 0 (by omega))
  clear hcc hcb hcellb hb3 hcs hcv
  have hd0 : decide (bs.length < cs.length) = false := by simp; omega
  go_enter Tryd.func13, Tryd.ntmps13
  go_wp2_with (go_at_call 12; refine hCC.out.mono ?_; rintro e w' ⟨rfl, rfl⟩)
  -- the look at what comes
  go_loopg [27] cs.length (fun g i wr => wr = w ∧ ∃ k : Nat, k + g = cs.length ∧ i = .int .i64 k)
  case atStart => exact ⟨rfl, 0, by omega, rfl⟩
  case round =>
    obtain ⟨rfl, k, hk, rfl⟩ := hrel
    by_cases hlt : k < cs.length
    · obtain ⟨n, rfl⟩ : ∃ n, gk = n + 1 := ⟨gk - 1, by omega⟩
      obtain ⟨bc, oc, rfl, hcellc⟩ := HC.out (by omega)
      have hck := hcellc k hlt
      have hin := HCS.out k hlt
      clear hcellc
      go_wp2_with (go_at_call 11; refine (within_yes _ _ _ _ hin.1 hin.2).mono ?_; rintro e w' ⟨rfl, rfl⟩)
      go_roundg n
      case measure => omega
      case rel => exact ⟨rfl, k + 1, by omega, by go_num⟩
    · go_wp2
      -- tick by tick
      rename World => w0
      have hown0 := World.ownsRow_nil w0 w0.heap.size 3 1
      go_loopg [9, 37] cs.length (fun g o i ww => Below w0.heap.size w0 ww ∧ ∃ t : Nat, t + g = cs.length ∧ i = .int .i64 t ∧ ww.ownsRow w0.heap.size 3 1 o (serveL cs bs t).length ((serveL cs bs t).map (Value.int .i64)))
      case atStart => exact ⟨Below.refl _ _, 0, by omega, rfl, by simpa [serveL] using hown0⟩
      case round =>
        clear hown0
        obtain ⟨hb, t, ht, rfl, hown⟩ := hrel
        by_cases hltt : t < cs.length
        · obtain ⟨n, rfl⟩ : ∃ n, gk = n + 1 := ⟨gk - 1, by omega⟩
          rename World => w1
          go_wp2
          go_loopg [11, 12, 13] (t + 1) (fun g bst ah i ww => ww = w1 ∧ ∃ s : Nat, s + g = t + 1 ∧ i = .int .i64 s ∧ ah = .int .i64 (pre cs s) ∧ bst = .int .i64 (refBest cs bs t s))
          case atStart => exact ⟨rfl, 0, by omega, rfl, rfl, rfl⟩
          case round =>
            obtain ⟨rfl, s, hs, rfl, rfl, rfl⟩ := hrel
            by_cases hlts : s ≤ t
            · obtain ⟨m, rfl⟩ : ∃ m, gk = m + 1 := ⟨gk - 1, by omega⟩
              obtain ⟨bc, oc, rfl, hcellc⟩ := HC.out (by omega)
              have hcw : bc < w0.heap.size := World.block_lt_of_cell? w0 _ (hcellc s (by omega))
              have hcs : wr.cell? ⟨bc, oc + s, none⟩ = some (.int .i64 (gi cs s)) := (hb.cell (p := ⟨bc, oc + s, none⟩) hcw).trans (hcellc s (by omega))
              have hbs : wr.cell? ⟨bb, ob + (t - s), none⟩ = some (.int .i64 (gi bs (t - s))) := (hb.cell (p := ⟨bb, ob + (t - s), none⟩) hbw).trans (HB.out (t - s) (by omega))
              have hp := pre_bd HCS.out s (by omega)
              have hi := HB3.out (t - s) (by omega)
              have hci := HCS.out s (by omega)
              clear hcellc
              have hlow : pre cs s + gi cs s ≤ 1000000000 := by omega
              by_cases hs0 : s = 0
              · have hr : refBest cs bs t s < 0 := by subst hs0; show (-1 : Int) < 0; decide
                have hnew : refBest cs bs t (s + 1) = pre cs s + gi bs (t - s) := by subst hs0; rfl
                have HS := Lib.hid hs0; clear hs0
                have HN := Lib.hid hnew; clear hnew
                go_wp2
                go_roundg m
                case measure => omega
                case rel => exact ⟨rfl, s + 1, by omega, by go_num, rfl, by rw [HN.out]⟩
              · have hr : 0 ≤ refBest cs bs t s ∧ refBest cs bs t s ≤ 2000000000000 := by
                  obtain ⟨q, rfl⟩ : ∃ q, s = q + 1 := ⟨s - 1, by omega⟩
                  exact mn_nonneg HCS.out ⟨hb1, hb2, HB3.out⟩ t (by omega) (by omega) q (by omega)
                obtain ⟨hr1, hr2⟩ := hr
                by_cases hx : pre cs s + gi bs (t - s) < refBest cs bs t s
                · have hnew : refBest cs bs t (s + 1) = pre cs s + gi bs (t - s) := by
                    obtain ⟨q, rfl⟩ : ∃ q, s = q + 1 := ⟨s - 1, by omega⟩
                    exact refBest_less hx
                  have HN := Lib.hid hnew; clear hnew
                  go_wp2
                  go_roundg m
                  case measure => omega
                  case rel => exact ⟨rfl, s + 1, by omega, by go_num, rfl, by rw [HN.out]⟩
                · have hnew : refBest cs bs t (s + 1) = refBest cs bs t s := by
                    obtain ⟨q, rfl⟩ : ∃ q, s = q + 1 := ⟨s - 1, by omega⟩
                    exact refBest_keep hx
                  have HN := Lib.hid hnew; clear hnew
                  go_wp2
                  go_roundg m
                  case measure => omega
                  case rel => exact ⟨rfl, s + 1, by omega, by go_num, rfl, by rw [HN.out]⟩
            · have hst : refBest cs bs t s = serveAt cs bs t := by rw [show s = t + 1 by omega]; rfl
              have HS := Lib.hid hst; clear hst
              have hsz := hb.size
              have hll := serveL_length cs bs t
              have HL := Lib.hid hll; clear hll
              go_wp2_with (at_builtin; refine wpList_append_int rfl _ _ 28 3 rfl Tryd.underlying28 infoInt w0.heap.size _ (serveL cs bs t) rfl hown _ rfl (by rw [HL.out]; omega) hsz ?_; intro v' w' hown' hgr)
              go_roundg n
              case measure => omega
              case rel => exact ⟨hb.trans (grown_below hown hgr hsz), t + 1, by omega, by go_num, by rw [serveL_succ, ← HS.out]; exact hown'⟩
        · have htt : t = cs.length := by omega
          have HT := Lib.hid htt; clear htt
          go_wp2
          go_ret2
          exact ⟨_, rfl, by rw [← HT.out]; exact Ints.own hown, hb, fun k hk => (hown.lt k hk).1⟩

set_option maxHeartbeats 4000000 in
set_option maxRecDepth 100000 in
theorem OwnServe_any (vc vb : Value) (cs bs : List Int) (w : World) (hvc : Ints w vc cs) (hvb : Ints w vb bs) (hcv : curveChk bs = 0) (hlen : cs.length ≤ bs.length) (hcs : Come cs) :
    Calls Tryd.prog 20 #[vc, vb] w (ServeP w (serveL cs bs cs.length) .nilIface) := by
  have hbs := Curve.of hcv
  have hCC := Lib.hid (Check_ok vb bs w hvb hcv)
  obtain ⟨ac, cc, rfl, hlc, hcc⟩ := hvc
  obtain ⟨ab, cb, rfl, hlb, hcb⟩ := hvb
  obtain ⟨hb1, hb2, hb3⟩ := hbs
  obtain ⟨bb, ob, rfl, hcellb⟩ := hcb (by omega)
  have HB := Lib.hid hcellb
  have HC := Lib.hid hcc
  have HB3 := Lib.hid hb3
  have HCS := Lib.hid hcs
  have HCV := Lib.hid hcv
  have hbw : bb < w.heap.size := World.block_lt_of_cell? w _ (hcellb 0 (by omega))
  clear hcc hcb hcellb hb3 hcs hcv
  have hd0 : decide (bs.length < cs.length) = false := by simp; omega
  have hown0 := World.ownsRow_nil w w.heap.size 3 1
  go_enter Tryd.func20, Tryd.ntmps20
  go_wp2_with (go_at_call 19; refine hCC.out.mono ?_; rintro e w' ⟨rfl, rfl⟩)
  go_loopg [7, 8, 28] cs.length (fun g sm o i ww => Below w.heap.size w ww ∧ ∃ k : Nat, k + g = cs.length ∧ i = .int .i64 k ∧ sm = .int .i64 (pre cs k) ∧ ww.ownsRow w.heap.size 3 1 o (preL cs k).length ((preL cs k).map (Value.int .i64)))
  case atStart => exact ⟨Below.refl _ _, 0, by omega, rfl, rfl, by simpa [preL] using hown0⟩
  case round =>
    clear hown0
    obtain ⟨hb, k, hk, rfl, rfl, hown⟩ := hrel
    by_cases hlt : k < cs.length
    · obtain ⟨n, rfl⟩ : ∃ n, gk = n + 1 := ⟨gk - 1, by omega⟩
      obtain ⟨bc, oc, rfl, hcellc⟩ := HC.out (by omega)
      have hcw : bc < w.heap.size := World.block_lt_of_cell? w _ (hcellc k (by omega))
      have hck : wr.cell? ⟨bc, oc + k, none⟩ = some (.int .i64 (gi cs k)) := (hb.cell (p := ⟨bc, oc + k, none⟩) hcw).trans (hcellc k hlt)
      obtain ⟨hin1, hin2⟩ := HCS.out k hlt
      have hp := pre_bd HCS.out k (by omega)
      have hsz := hb.size
      have HL := Lib.hid (preL_length cs k)
      clear hcellc
      go_wp2_with (at_builtin; refine wpList_append_int rfl _ _ 28 3 rfl Tryd.underlying28 infoInt w.heap.size _ (preL cs k) rfl hown _ rfl (by rw [HL.out]; omega) hsz ?_; intro v' w' hown' hgr)
      go_roundg n
      case measure => omega
      case rel => exact ⟨hb.trans (grown_below hown hgr hsz), k + 1, by omega, by go_num, rfl, by rw [preL_succ]; exact hown'⟩
    · have hkk : k = cs.length := by omega
      have hby : Ints wr u8 (preL cs cs.length) := by rw [← hkk]; exact Ints.own hown
      have HBY := Lib.hid hby
      clear hkk hown hby
      go_wp2
      rename World => w1
      have hown1 := World.ownsRow_nil w1 w1.heap.size 3 1
      go_loopg [11, 49] cs.length (fun g o i ww => Below w1.heap.size w1 ww ∧ ∃ t : Nat, t + g = cs.length ∧ i = .int .i64 t ∧ ww.ownsRow w1.heap.size 3 1 o (serveL cs bs t).length ((serveL cs bs t).map (Value.int .i64)))
      case atStart => exact ⟨Below.refl _ _, 0, by omega, rfl, by simpa [serveL] using hown1⟩
      case round =>
        clear hown1
        obtain ⟨hb2', t, ht, rfl, hown⟩ := hrel
        by_cases hltt : t < cs.length
        · obtain ⟨n, rfl⟩ : ∃ n, gk = n + 1 := ⟨gk - 1, by omega⟩
          rename World => w2
          obtain ⟨ay, cy, rfl, hly, hcy⟩ := HBY.out
          have hlen2 : t < (preL cs cs.length).length := by rw [preL_length]; omega
          obtain ⟨bY, oY, rfl, hcelly⟩ := hcy (by omega)
          have hyw : bY < w1.heap.size := World.block_lt_of_cell? w1 _ (hcelly t hlen2)
          have hbw1 : bb < w1.heap.size := Nat.lt_of_lt_of_le hbw hb.size
          have hy : ∀ s, s < cs.length → w2.cell? ⟨bY, oY + s, none⟩ = some (.int .i64 (pre cs s)) := fun s hs => by
            rw [← gi_preL hs]; exact (hb2'.cell (p := ⟨bY, oY + s, none⟩) hyw).trans (hcelly s (by rw [preL_length]; omega))
          have hbc : ∀ s, s < bs.length → w2.cell? ⟨bb, ob + s, none⟩ = some (.int .i64 (gi bs s)) := fun s hs =>
            (hb2'.cell (p := ⟨bb, ob + s, none⟩) hbw1).trans ((hb.cell (p := ⟨bb, ob + s, none⟩) hbw).trans (HB.out s hs))
          have hyt := hy t hltt
          have hb0 : w2.cell? ⟨bb, ob, none⟩ = some (.int .i64 (gi bs 0)) := by simpa using hbc 0 (by omega)
          have HY := Lib.hid hy
          have HBC := Lib.hid hbc
          have hpt := pre_bd HCS.out t (by omega)
          have hg0 := HB3.out 0 (by omega)
          have hw0 := IntWalk.i64_in (pre cs t + gi bs 0) (by omega)
          clear hy hbc hcelly hcy
          go_wp2
          go_quiet (fail)
          go_wp2
          go_loopg [13, 61] t (fun g bst i ww => Below w2.heap.size w2 ww ∧ ww.heap = w2.heap ∧ ∃ s : Nat, s + g = t ∧ i = .int .i64 s ∧ bst = .int .i64 (ownBest cs bs t s))
          case atStart => exact ⟨below_drewN (Below.refl _ _) _, rfl, 0, by omega, rfl, rfl⟩
          case round =>
            obtain ⟨hb3', hheap, s, hs, rfl, rfl⟩ := hrel
            by_cases hlts : s < t
            · obtain ⟨m, rfl⟩ : ∃ m, gk = m + 1 := ⟨gk - 1, by omega⟩
              have hyw2 : bY < w2.heap.size := World.block_lt_of_cell? w2 _ hyt
              have hbw2 : bb < w2.heap.size := World.block_lt_of_cell? w2 _ hb0
              have hys : wr.cell? ⟨bY, oY + s, none⟩ = some (.int .i64 (pre cs s)) := (hb3'.cell (p := ⟨bY, oY + s, none⟩) hyw2).trans (HY.out s (by omega))
              have hbs : wr.cell? ⟨bb, ob + (t - s), none⟩ = some (.int .i64 (gi bs (t - s))) := (hb3'.cell (p := ⟨bb, ob + (t - s), none⟩) hbw2).trans (HBC.out (t - s) (by omega))
              have hps := pre_bd HCS.out s (by omega)
              have hgs := HB3.out (t - s) (by omega)
              have hw1 := IntWalk.i64_in (pre cs s + gi bs (t - s)) (by omega)
              have hw2 := IntWalk.i64_in ((t : Int) - s) (by omega)
              have hlen3 : s < (preL cs cs.length).length := by omega
              have HH := Lib.hid hheap; clear hheap
              have hnew : min (ownBest cs bs t s) (pre cs s + gi bs (t - s)) = ownBest cs bs t (s + 1) := rfl
              have HN := Lib.hid hnew; clear hnew
              clear hyt hb0 hw0
              go_wp2
              go_quiet (fail)
              go_wp2
              go_roundg m
              case measure => omega
              case rel => exact ⟨below_drewN hb3' _, HH.out, s + 1, by omega, by go_num, by rw [HN.out]⟩
            · have hst : ownBest cs bs t s = serveAt cs bs t := by rw [show s = t by omega]; exact ownBest_all cs bs t
              have HS := Lib.hid hst; clear hst
              have hown3 : wr.ownsRow w1.heap.size 3 1 u11 (serveL cs bs t).length ((serveL cs bs t).map (Value.int .i64)) := hown.kept (row := none) ⟨hb3'.os, hb3'.tape, hb3'.output, hb3'.size, fun k hk _ => by rw [hheap]⟩ (by cases hv : Value.ownBlock u11 <;> simp)
              have HL := Lib.hid (serveL_length cs bs t)
              have hsz : w1.heap.size ≤ wr.heap.size := Nat.le_trans hb2'.size hb3'.size
              have hb4 : Below w1.heap.size w1 wr := hb2'.trans (hb3'.mono hb2'.size)
              clear hown hyt hb0 hw0 hheap
              go_wp2_with (at_builtin; refine wpList_append_int rfl _ _ 28 3 rfl Tryd.underlying28 infoInt w1.heap.size _ (serveL cs bs t) rfl hown3 _ rfl (by rw [HL.out]; omega) hsz ?_; intro v' w' hown' hgr)
              go_roundg n
              case measure => omega
              case rel => exact ⟨hb4.trans (grown_below hown3 hgr hsz), t + 1, by omega, by go_num, by rw [serveL_succ, ← HS.out]; exact hown'⟩
        · have htt : t = cs.length := by omega
          have HT := Lib.hid htt; clear htt
          go_wp2
          go_ret2
          exact ⟨_, rfl, by rw [← HT.out]; exact Ints.own hown, hb.trans (hb2'.mono hb.size), fun k hk => Nat.le_trans hb.size (hown.lt k hk).1⟩
end Go.Proofs.YtmljdgedndbipaaDoor
