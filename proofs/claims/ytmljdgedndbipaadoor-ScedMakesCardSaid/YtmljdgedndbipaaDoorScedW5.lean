/-
  What is proved here: sameInts and sameLists answer true of two values that read alike; flows reads its input into new memory.
-/
import Derived.Test.YtmljdgedndbipaaDoorScedW1
import Derived.Deep.AppendLies
import Derived.Deep.RegionLaw
namespace Go.Proofs.YtmljdgedndbipaaDoor
open Go.RowKit

set_option maxHeartbeats 1000000 in
theorem sameInts_eq (v u : Value) (xs : List Int) (w : World) (hv : Ints w v xs) (hu : Ints w u xs) :
    Calls Tryd.prog 9 #[v, u] w fun e w' => e = .returned (.bool true) ∧ Below w.heap.size w w' := by
  obtain ⟨a, ca, rfl, hl, hca⟩ := hv
  obtain ⟨b, cb, rfl, _, hcb⟩ := hu
  have HA := Lib.hid hca; have HB := Lib.hid hcb; clear hca hcb
  have hne : ((xs.length : Int) != (xs.length : Int)) = false := by simp
  go_enter Tryd.func9, Tryd.ntmps9
  go_wp2
  go_loopg [5] xs.length (fun g i ww => Below w.heap.size w ww ∧ ∃ k : Nat, k + g = xs.length ∧ i = .int .i64 k)
  case atStart => exact ⟨Below.refl _ _, 0, by omega, rfl⟩
  case round =>
    obtain ⟨hb, k, hk, rfl⟩ := hrel
    by_cases hlt : k < xs.length
    · obtain ⟨n, rfl⟩ : ∃ n, gk = n + 1 := ⟨gk - 1, by omega⟩
      obtain ⟨b1, o1, rfl, hc1⟩ := HA.out (by omega)
      obtain ⟨b2, o2, rfl, hc2⟩ := HB.out (by omega)
      have hw1 : b1 < w.heap.size := World.block_lt_of_cell? w _ (hc1 k hlt)
      have hw2 : b2 < w.heap.size := World.block_lt_of_cell? w _ (hc2 k hlt)
      have h1 : wr.cell? ⟨b1, o1 + k, none⟩ = some (.int .i64 (gi xs k)) := (hb.cell (p := ⟨b1, o1 + k, none⟩) hw1).trans (hc1 k hlt)
      have h2 : wr.cell? ⟨b2, o2 + k, none⟩ = some (.int .i64 (gi xs k)) := (hb.cell (p := ⟨b2, o2 + k, none⟩) hw2).trans (hc2 k hlt)
      have hne2 : (gi xs k != gi xs k) = false := by simp
      clear hc1 hc2
      go_wp2
      go_quiet (fail)
      go_wp2
      go_roundg n
      case measure => omega
      case rel => exact ⟨below_drewN hb _, k + 1, by omega, by go_num⟩
    · go_wp2
      go_ret
      exact ⟨rfl, hb⟩

set_option maxHeartbeats 1000000 in
theorem sameLists_eq (v u : Value) (xss : List (List Int)) (w : World) (hv : Lists w v xss) (hu : Lists w u xss) :
    Calls Tryd.prog 10 #[v, u] w fun e w' => e = .returned (.bool true) ∧ Below w.heap.size w w' := by
  obtain ⟨a, ca, rfl, hl, hca⟩ := hv
  obtain ⟨b, cb, rfl, _, hcb⟩ := hu
  have HA := Lib.hid hca; have HB := Lib.hid hcb; clear hca hcb
  have hne : ((xss.length : Int) != (xss.length : Int)) = false := by simp
  go_enter Tryd.func10, Tryd.ntmps10
  go_wp2
  go_loopg [5] xss.length (fun g i ww => Below w.heap.size w ww ∧ ∃ k : Nat, k + g = xss.length ∧ i = .int .i64 k)
  case atStart => exact ⟨Below.refl _ _, 0, by omega, rfl⟩
  case round =>
    obtain ⟨hb, k, hk, rfl⟩ := hrel
    by_cases hlt : k < xss.length
    · obtain ⟨n, rfl⟩ : ∃ n, gk = n + 1 := ⟨gk - 1, by omega⟩
      obtain ⟨b1, o1, rfl, hc1⟩ := HA.out (by omega)
      obtain ⟨b2, o2, rfl, hc2⟩ := HB.out (by omega)
      obtain ⟨c1, q1, i1⟩ := hc1 k hlt
      obtain ⟨c2, q2, i2⟩ := hc2 k hlt
      have hw1 : b1 < w.heap.size := World.block_lt_of_cell? w _ q1
      have hw2 : b2 < w.heap.size := World.block_lt_of_cell? w _ q2
      have h1 : wr.cell? ⟨b1, o1 + k, none⟩ = some c1 := (hb.cell (p := ⟨b1, o1 + k, none⟩) hw1).trans q1
      have h2 : wr.cell? ⟨b2, o2 + k, none⟩ = some c2 := (hb.cell (p := ⟨b2, o2 + k, none⟩) hw2).trans q2
      have hsame : ∀ w2, Below w.heap.size w w2 → Calls Tryd.prog 9 #[c1, c2] w2 fun e w' => e = .returned (.bool true) ∧ Below w2.heap.size w2 w' :=
        fun w2 hb2 => sameInts_eq c1 c2 _ w2 (i1.below hb2 (Nat.le_refl _)) (i2.below hb2 (Nat.le_refl _))
      have HS := Lib.hid hsame; clear hsame i1 i2 q1 q2 hc1 hc2
      go_wp2
      go_region_with (go_at_call 9; refine (HS.out _ hb.drew).mono ?_; rintro e w' ⟨rfl, hb3⟩)
      all_goals
        go_wp2
        go_roundg n
        case measure => omega
        case rel => exact ⟨hb.drew.trans (hb3.mono hb.size), k + 1, by omega, by go_num⟩
    · go_wp2
      go_ret
      exact ⟨rfl, hb⟩
end Go.Proofs.YtmljdgedndbipaaDoor
