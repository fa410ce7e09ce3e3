/-
  What is proved here: flows (the law's own) reads its input into new memory.
-/
import Derived.Test.YtmljdgedndbipaaDoorScedW1
import Derived.Deep.AppendLies
import Derived.Deep.RegionLaw
namespace Go.Proofs.YtmljdgedndbipaaDoor
open Go.RowKit

theorem infoFlow : (Tryd.prog.info? 30).map (fun i => (i.zero, i.size, i.bytes)) = some (some (.agg #[.slice none 0 0, .slice none 0 0]), 2, 48) := by kernel_rfl

def FlowsP (w : World) (fs : Fl) (e : Ending) (w' : World) : Prop :=
  ∃ v ok, e = .returned (.tuple #[v, .bool ok]) ∧ Below w.heap.size w w' ∧ (ok = true → fs.length ≤ 20) ∧ Flows w' v fs

set_option maxHeartbeats 4000000 in
set_option maxRecDepth 100000 in
theorem flows_any (v : Value) (fs : Fl) (w : World) (h : Flows w v fs) (hreach : fs.length * 48 ≤ 140737488351232) :
    Calls Tryd.prog 4 #[v] w (FlowsP w fs) := by
  obtain ⟨a, cap, rfl, hl, hc⟩ := h
  have HC := Lib.hid hc; clear hc
  -- the values of the cells
  obtain ⟨c, p, hcp⟩ : ∃ c p : Nat → Value, ∀ b off, a = some ⟨b, off, none⟩ → ∀ i, i < fs.length → w.cell? ⟨b, off + i * 2, none⟩ = some (c i) ∧ w.cell? ⟨b, off + i * 2 + 1, none⟩ = some (p i) ∧ Ints w (c i) (fC fs i) ∧ Ints w (p i) (fP fs i) := by
    rcases Nat.eq_zero_or_pos fs.length with h0 | h0
    · exact ⟨fun _ => undef, fun _ => undef, fun _ _ _ i hi => by omega⟩
    · obtain ⟨b, off, rfl, hcell⟩ := HC.out h0
      refine ⟨fun i => (w.cell? ⟨b, off + i * 2, none⟩).getD undef, fun i => (w.cell? ⟨b, off + i * 2 + 1, none⟩).getD undef, fun b' off' e i hi => ?_⟩
      cases e
      obtain ⟨x, y, h1, h2, h3, h4⟩ := hcell i hi
      simp only [h1, h2, Option.getD_some]
      exact ⟨trivial, trivial, h3, h4⟩
  have HCP := Lib.hid hcp; clear hcp
  have hown0 := World.ownsRow_nil w w.heap.size 30 2
  go_enter Tryd.func4, Tryd.ntmps4
  go_wp2
  go_loopg [4, 5, 6] fs.length (fun g o n i ww => Below w.heap.size w ww ∧ ∃ (k : Nat) (m : Int), k + g = fs.length ∧ i = .int .i64 k ∧ n = .int .i64 m ∧ ww.ownsRow w.heap.size 30 2 o k (flat2 c p k))
  case atStart => exact ⟨Below.refl _ _, 0, 0, by omega, rfl, rfl, hown0⟩
  case round =>
    clear hown0
    obtain ⟨hb, k, m, hk, rfl, rfl, hown⟩ := hrel
    by_cases hlt : k < fs.length
    · obtain ⟨n, rfl⟩ : ∃ n, gk = n + 1 := ⟨gk - 1, by omega⟩
      obtain ⟨b, off, rfl, _⟩ := HC.out (by omega)
      obtain ⟨q1, q2, q3, q4⟩ := HCP.out b off rfl k hlt
      have hbw : b < w.heap.size := World.block_lt_of_cell? w _ q1
      obtain ⟨ac, cc, hcv, hlc, _⟩ := q3
      obtain ⟨ap, cp, hpv, hlp, _⟩ := q4
      have hfl := flat2_succ c p k
      rw [hcv] at q1 hfl
      rw [hpv] at q2 hfl
      have HFL := Lib.hid hfl
      clear hcv hpv hfl
      have hcl1 : ∀ ww, Below w.heap.size w ww → ww.cell? ⟨b, off + k * 2, none⟩ = some (.slice ac (fC fs k).length cc) := fun ww hb => (hb.cell (p := ⟨b, off + k * 2, none⟩) hbw).trans q1
      have hcl2 : ∀ ww, Below w.heap.size w ww → ww.cell? ⟨b, off + k * 2 + 1, none⟩ = some (.slice ap (fP fs k).length cp) := fun ww hb => (hb.cell (p := ⟨b, off + k * 2 + 1, none⟩) hbw).trans q2
      have HC1 := Lib.hid hcl1
      have HC2 := Lib.hid hcl2
      clear hcl1 hcl2 q1 q2
      have h1 := HC1.out wr hb
      have h2 := HC2.out wr hb
      have hsz := hb.size
      have hk48 : (k + 1) * 48 ≤ 140737488355328 := by omega
      go_wp2
      go_region_law (refine step_append_fresh rfl _ _ 23 rfl w.heap.size 30 (.agg #[.slice none 0 0, .slice none 0 0]) 2 48 Tryd.underlying23 infoFlow rfl (by decide) _ k (flat2 c p k) rfl wr hown 1 [.slice ac (fC fs k).length cc, .slice ap (fP fs k).length cp] 1 rfl rfl rfl (by simp [Value.oneCell']) (by decide) (by omega) hk48 hsz ?_; intro g cp2 w2 ho hgr _ _)
      all_goals
        have hb2 := hb.trans (grown_below hown hgr hsz)
        have g1 := HC1.out w2 hb2
        have g2 := HC2.out w2 hb2
        clear h1 h2 hgr
        rw [← HFL.out] at ho
        go_wp2
        go_quiet (fail)
        go_wp2
        go_roundg n
        case measure => omega
        case rel => exact ⟨below_drewN hb2 _, k + 1, _, by omega, by go_num, rfl, ho⟩
    · have hkk : k = fs.length := by omega
      have hF : Flows wr u4 fs := Flows.own (c := c) (p := p) (by rw [← hkk]; exact hown) (fun i hi => by
        obtain ⟨b, off, e, _⟩ := HC.out (by omega)
        obtain ⟨_, _, q3, q4⟩ := HCP.out b off e i hi
        exact ⟨q3.below hb (Nat.le_refl _), q4.below hb (Nat.le_refl _)⟩)
      have HF := Lib.hid hF; clear hF hkk hown
      by_cases hm : m ≤ 700
      · by_cases h20 : fs.length ≤ 20
        · go_wp2
          go_ret2
          exact ⟨_, _, rfl, hb, fun _ => h20, HF.out⟩
        · have hd : decide ((fs.length : Int) ≤ 20) = false := by simp; omega
          go_wp2
          go_ret2
          exact ⟨_, _, rfl, hb, fun h => by simp at h, HF.out⟩
      · go_wp2
        go_ret2
        exact ⟨_, _, rfl, hb, fun h => by simp at h, HF.out⟩
end Go.Proofs.YtmljdgedndbipaaDoor
