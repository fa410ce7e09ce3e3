/-
  What is proved here: samePairs answers true of two values that read alike; Exact, and the two Tops (16.1), given what 'sorted' answers.
-/
import Derived.Test.YtnefldamfhockaaDoorTopsPlain
import Derived.Test.YtnefldamfhockaaDoorMapStore
import Derived.Test.YtnefldamfhockaaDoorProg
import Derived.Maps.OwnOps
import Derived.Maps.OwnSet
import Derived.BigQuiet
import Derived.Deep.QuietTactic
namespace Go.Proofs.YtnefldamfhockaaDoor
open Go.RowKit Go.Maps

theorem lawK : Keyed Tryd.prog 3 := int_keyed Tryd.underlying3
theorem zeroE (w : World) : (zeroValue 3).run Tryd.prog w = .ok (.int .i64 0) w := by kernel_rfl

/-- A map of counts. -/
def MC (w : World) (b n : Nat) (f : Int → Int) : Prop := ∃ D : DataW Unit, w.ownsMap Tryd.prog 3 (plainElem Tryd.prog 3) b n D ∧ Cnt D f
/-- A slice that reads as these pairs. -/
def Prs (w : World) (v : Value) (L : List (Int × Int)) : Prop :=
  ∃ a cap, v = .slice a L.length cap ∧ L.length ≤ 9223372036854775807 ∧
    (0 < L.length → ∃ b off, a = some ⟨b, off, none⟩ ∧ ∀ i, i < L.length → w.cell? ⟨b, off + i * 2, none⟩ = some (.int .i64 (L.getD i (0, 0)).1) ∧ w.cell? ⟨b, off + i * 2 + 1, none⟩ = some (.int .i64 (L.getD i (0, 0)).2))
theorem Prs.below {w w' : World} {v : Value} {L : List (Int × Int)} {B : Nat} (h : Prs w v L) (hb : Below B w w') (hB : w.heap.size ≤ B) : Prs w' v L := by
  obtain ⟨a, cap, rfl, hl, hc⟩ := h
  refine ⟨a, cap, rfl, hl, fun h0 => ?_⟩
  obtain ⟨b, off, rfl, hcell⟩ := hc h0
  refine ⟨b, off, rfl, fun i hi => ?_⟩
  obtain ⟨h1, h2⟩ := hcell i hi
  have hlt : b < w.heap.size := World.block_lt_of_cell? w _ h1
  rw [hb.cell (p := ⟨b, off + i * 2, none⟩) (by show b < B; omega), hb.cell (p := ⟨b, off + i * 2 + 1, none⟩) (by show b < B; omega)]
  exact ⟨h1, h2⟩
theorem Prs.nil (w : World) : Prs w (.slice none 0 0) [] := ⟨none, 0, rfl, by simp, fun h => by simp at h⟩
def pk1 (L : List (Int × Int)) (i : Nat) : Int := (L.getD i (0, 0)).1
def pk2 (L : List (Int × Int)) (i : Nat) : Int := (L.getD i (0, 0)).2

set_option maxHeartbeats 1000000 in
theorem samePairs_eq (v u : Value) (L : List (Int × Int)) (w : World) (hv : Prs w v L) (hu : Prs w u L) :
    Calls Tryd.prog 7 #[v, u] w fun e w' => e = .returned (.bool true) ∧ Below w.heap.size w w' := by
  obtain ⟨a, ca, rfl, hl, hca⟩ := hv
  obtain ⟨b, cb, rfl, _, hcb⟩ := hu
  have HA := Lib.hid hca; have HB := Lib.hid hcb; clear hca hcb
  go_enter Tryd.func7, Tryd.ntmps7
  go_wp2
  go_loopg [5] L.length (fun g i W => (∃ q, W = w.drewN q) ∧ ∃ k : Nat, k + g = L.length ∧ i = .int .i64 k)
  case atStart => exact ⟨⟨0, rfl⟩, 0, by omega, rfl⟩
  case round =>
    obtain ⟨⟨q, rfl⟩, k, hk, rfl⟩ := hrel
    by_cases hlt : k < L.length
    · obtain ⟨n, rfl⟩ : ∃ n, gk = n + 1 := ⟨gk - 1, by omega⟩
      obtain ⟨b1, o1, rfl, hc1⟩ := HA.out (by omega)
      obtain ⟨b2, o2, rfl, hc2⟩ := HB.out (by omega)
      obtain ⟨p1, p2⟩ := hc1 k hlt
      obtain ⟨p3, p4⟩ := hc2 k hlt
      change w.cell? _ = some (.int .i64 (pk1 L k)) at p1 p3
      change w.cell? _ = some (.int .i64 (pk2 L k)) at p2 p4
      clear hc1 hc2
      go_wp2
      go_quiet (fail)
      go_wp2
      go_roundg n
      case measure => omega
      case rel => exact ⟨⟨_, rfl⟩, k + 1, by omega, by go_num⟩
    · go_wp2
      go_ret
      exact ⟨rfl, below_drewN (Below.refl _ _) _⟩

def WFs (keys : List Int) : Prop := ∀ i, i < keys.length → -9223372036854775808 ≤ gi keys i ∧ gi keys i ≤ 9223372036854775807
theorem lit_eq {c d : Int} (h : (DataW.lit (.int .i64 c) : DataW Unit) = .lit (.int .i64 d)) : c = d := by cases h; rfl
def PrsP (w : World) (f : Int → Int) (e : Ending) (w' : World) : Prop :=
  ∃ v L, e = .returned v ∧ SortedOf f (fun _ => true) L ∧ Prs w' v L ∧ Below w.heap.size w w'
/-- What the program's 'sorted' answers. -/
def SortsP : Prop := ∀ (b n : Nat) (f : Int → Int) (w : World), MC w b n f → n ≤ 1000 → (∀ x, f x ≤ 1000) → Calls Tryd.prog 10 #[.map (some b)] w (PrsP w f)

set_option maxHeartbeats 1000000 in
theorem Exact_any (HS : SortsP) (v : Value) (keys : List Int) (w : World) (h : Ints w v keys) (hwf : WFs keys) (hl : keys.length ≤ 200) :
    Calls Tryd.prog 8 #[v] w (PrsP w (cntF keys keys.length)) := by
  have hmm := @run_makeMap Tryd.prog
  have HI := Lib.hid h; have HW := Lib.hid hwf; have HSS := Lib.hid HS
  obtain ⟨a, ca, rfl, _, _⟩ := h
  clear hwf HS
  go_enter Tryd.func8, Tryd.ntmps8
  go_wp2
  go_loopg [5, 9] keys.length (fun g x i W => Below w.heap.size w W ∧ ∃ k : Nat, k + g = keys.length ∧ i = .int .i64 k ∧ MC W w.heap.size k (cntF keys k))
  case atStart => exact ⟨(Below.refl _ _).alloc (Nat.le_refl _) _, 0, by omega, rfl, .map [], World.ownsMap_made _ _ _ _, Cnt.empty⟩
  case round =>
    obtain ⟨hb, k, hk, rfl, D, hown, hC⟩ := hrel
    by_cases hlt : k < keys.length
    · obtain ⟨n, rfl⟩ : ∃ n, gk = n + 1 := ⟨gk - 1, by omega⟩
      have hI := HI.out.below hb (Nat.le_refl _)
      obtain ⟨_, _, e1, _, hc⟩ := hI
      cases e1
      obtain ⟨b1, o1, rfl, hc1⟩ := hc (by omega)
      have p1 := hc1 k hlt
      have hwf := HW.out k hlt
      have hkey : keyOf Tryd.prog 3 (.int .i64 (gi keys k)) = some (kl (gi keys k)) := keyOf_int_mk Tryd.underlying3 (WalkArith.wf_i64 (by omega))
      have hat0 := hC.at0 (gi keys k)
      have hbd := cntF_bd keys k (gi keys k)
      have HAT := Lib.hid hat0; have HC := Lib.hid hC; have HB := Lib.hid hb
      clear hc hc1 hat0 hC hb
      go_wp2_with (first
        | (at_lookup; refine wpList_lookup_own_int _ rfl _ _ 23 rfl 3 3 .i64 lawK Tryd.underlying23 Tryd.underlying3 (zeroE _) w.heap.size k _ rfl hown _ _ rfl hkey ?_; intro c hat hwc; have hcE : c = cntF keys k (gi keys k) := lit_eq (hat.symm.trans HAT.out); have HCE := Lib.hid hcE; have hc0 : 0 ≤ c := (by omega); have hc1 : c ≤ k := (by omega); clear hat hwc hcE)
        | (at_mapUpdate; refine wpList_mapUpdate_own _ rfl _ _ _ 23 rfl 3 3 lawK Tryd.underlying23 _ w.heap.size k _ rfl hown (by unfold maxLen; omega) _ _ _ rfl rfl hkey _ [] (plainElem_int Tryd.underlying3 (WalkArith.wf_i64 (by omega))) ?_; intro w1 hown1 hgrow1))
      go_roundg n
      case measure => omega
      case rel =>
        refine ⟨HB.out.grown hgrow1 HB.out.size (fun j hj => by cases hj; exact Nat.le_refl _), k + 1, by omega, by go_num, _, hown1, (HC.out.put (hown.tidy lawK).isMap _ (by omega)).congr (fun x => ?_)⟩
        rw [HCE.out]; rfl
    · have hkE : k = keys.length := by omega
      subst hkE
      have hbk := cntF_bd keys keys.length
      have hs := HSS.out w.heap.size keys.length (cntF keys keys.length) wr ⟨D, hown, hC⟩ (by omega) (fun x => by have := (hbk x).2; omega)
      have HSX := Lib.hid hs; have HB := Lib.hid hb
      clear hbk hs hown hC hb
      go_wp2_with (go_at_call 10; refine HSX.out.mono ?_; rintro e w2 ⟨vL, L, rfl, hso, hpr, hb2⟩)
      go_ret
      exact ⟨_, L, rfl, hso, hpr, HB.out.trans (hb2.mono HB.out.size)⟩
end Go.Proofs.YtnefldamfhockaaDoor
