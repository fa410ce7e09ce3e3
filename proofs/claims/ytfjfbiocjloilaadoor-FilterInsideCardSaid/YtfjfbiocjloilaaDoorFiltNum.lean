/-
  What is proved here: Number of the document's reference and number of the program's filters (11.2), and places in texts: for every world in which the library's variables are laid.
-/
import Derived.Test.YtfjfbiocjloilaaDoorFiltPlain
import Derived.Test.YtfjfbiocjloilaaDoorFiltShelf
import Derived.Lib.AtoiErrMem
import Derived.Lib.ParseIntB
import Derived.Laws.StructEq
import Derived.Deep.LoopGhost
namespace Go.Proofs.YtfjfbiocjloilaaDoor
open Go.RowKit Go.Sort

theorem parseUint_same : ∀ (l : List UInt8) (acc : Nat), Lib.parseUintM 18446744073709551615 acc l = Lib.parseUint10 acc l
  | [], _ => rfl
  | c :: r, acc => by
    simp only [Lib.parseUintM, Lib.parseUint10]
    split
    · split
      · rfl
      · by_cases h : 18446744073709551616 ≤ acc * 10 + (c.toNat - 48)
        · rw [if_pos h, if_pos (by omega)]
        · rw [if_neg h, if_neg (by omega), parseUint_same r]
    · rfl
theorem parseInt_same (l : List UInt8) : Lib.parseIntB 64 l = Lib.atoiAll l := by
  cases l with
  | nil => rfl
  | cons c r =>
    simp only [Lib.parseIntB, Lib.atoiAll, Lib.parseUintB, Lib.parseMag]
    rw [show (2 ^ 64 - 1 : Nat) = 18446744073709551615 from rfl, parseUint_same]
    rfl

/-- The library's variables, as they are laid. -/
structure EnvN (W : World) : Prop where
  syn : ∃ tp p, W.var? Tryd.prog "strconv.ErrSyntax" = some #[.iface tp p]
  rng : ∃ tp p, W.var? Tryd.prog "strconv.ErrRange" = some #[.iface tp p]
  tab : Lib.TabIs Tryd.prog W "internal/strconv.uint64pow10" .u64 Lib.pow10Tab
  hi : 9 ≤ W.heap.size
theorem gSyn : Tryd.prog.globalNamed "strconv.ErrSyntax" = some 5 := by kernel_rfl
theorem gRng : Tryd.prog.globalNamed "strconv.ErrRange" = some 6 := by kernel_rfl
theorem gTab : Tryd.prog.globalNamed "internal/strconv.uint64pow10" = some 4 := by kernel_rfl
theorem EnvN.below {w w' : World} {B : Nat} (h : EnvN w) (hb : Below B w w') (hB : 9 ≤ B) : EnvN w' := by
  obtain ⟨⟨t1, p1, h1⟩, ⟨t2, p2, h2⟩, h3, h4⟩ := h
  exact ⟨⟨t1, p1, var?_below hb gSyn (by omega) h1⟩, ⟨t2, p2, var?_below hb gRng (by omega) h2⟩, var?_below hb gTab (by omega) h3, Nat.le_trans h4 hb.size⟩
theorem below_grow {w : World} {k : Nat} {os : Array Obj} : Below w.heap.size w (grow (w.drewN k) os) :=
  ⟨rfl, rfl, rfl, by simp [grow], fun j hj => by simp [grow, Array.getElem?_append_left hj]⟩
theorem str_eq {s t : ByteArray} : (s.toList == t.toList) = decide (s = t) := by
  rw [← beq_toListBytes]
  cases s with | mk a => cases t with | mk b =>
  show (a == b) = _
  rw [Bool.eq_iff_iff]
  simp
theorem bytes_ext {s t : ByteArray} : s = t ↔ s.data.toList = t.data.toList := by
  constructor
  · rintro rfl; rfl
  · intro h
    cases s with | mk a => cases t with | mk b => simp at h; rw [h]

def NumP (w : World) (s : ByteArray) (e : Ending) (w' : World) : Prop :=
  e = .returned (.tuple #[.int .i64 (numV s.data.toList), .bool (numOf s.data.toList).isSome]) ∧ Below w.heap.size w w'
theorem atoi_bd {l : List UInt8} {v : Int} (h : Lib.atoiAll l = .ok v) : -9223372036854775808 ≤ v ∧ v ≤ 9223372036854775807 := by
  cases l with
  | nil => cases h
  | cons c r =>
    simp only [Lib.atoiAll] at h
    split at h
    · cases h
    · cases h
    · split at h
      · cases h
      · split at h
        · cases h
        · injection h with h
          subst h
          split <;> omega

set_option maxHeartbeats 1000000 in
set_option maxRecDepth 100000 in
theorem Number_any (s : ByteArray) (w : World) (hE : EnvN w) (hs : s.size ≤ 100000) : Calls Tryd.prog 28 #[.string s] w (NumP w s) := by
  obtain ⟨⟨t1, p1, hsy⟩, ⟨t2, p2, hrn⟩, htab, hhi⟩ := hE
  rcases hA : Lib.atoiAll s.data.toList with v | _ | _
  rotate_left
  ·
    have hno : numOf s.data.toList = none := by simp [numOf, hA]
    have hc := Tryd.strconv_ParseInt_10_at64_syntax_var s (by omega) (by rw [parseInt_same]; exact hA) t1 p1 w hsy
    have HNO := Lib.hid hno; have HC := Lib.hid hc
    clear hno hc hA hsy hrn htab
    go_enter Tryd.func28, Tryd.ntmps28
    go_wp2_with (go_at_call 40; refine HC.out.mono ?_; rintro e w1 ⟨N, rfl, _, _, hb⟩)
    go_ret2
    exact ⟨by rw [numV, HNO.out]; rfl, hb⟩
  ·
    have hno : numOf s.data.toList = none := by simp [numOf, hA]
    have hc := Tryd.strconv_ParseInt_10_at64_range_var s (by omega) (by rw [parseInt_same]; exact hA) t2 p2 w hrn
    have HNO := Lib.hid hno; have HC := Lib.hid hc
    clear hno hc hA hsy hrn htab
    go_enter Tryd.func28, Tryd.ntmps28
    go_wp2_with (go_at_call 40; refine HC.out.mono ?_; rintro e w1 ⟨N, rfl, _, _, hb⟩)
    go_ret2
    exact ⟨by rw [numV, HNO.out]; rfl, hb⟩
  ·
    have hbd := atoi_bd hA
    have hc := Tryd.strconv_ParseInt_10_at64_ok s (by omega) v (by rw [parseInt_same]; exact hA) w
    have hcb : Calls Tryd.prog 40 #[.string s, .int .i64 10, .int .i64 64] w fun e w' => e = .returned (.tuple #[.int .i64 v, .nilIface]) ∧ Below w.heap.size w w' := hc.mono fun e w' ⟨he, hw⟩ => ⟨he, by
      rcases hw with rfl | ⟨t, rfl⟩
      · exact Below.refl _ _
      · exact Lib.bytesWorld_below _ _ _⟩
    obtain ⟨t, ht⟩ : ∃ t : ByteArray, t = ⟨(Lib.itoa v).toArray⟩ := ⟨_, rfl⟩
    have hf : ∀ w', Below w.heap.size w w' → Calls Tryd.prog 41 #[.int .i64 v, .int .i64 10] w' fun e w'' => e = .returned (.string t) ∧ ∃ k os, w'' = grow (w'.drewN k) os :=
      fun w' hb => by rw [ht]; exact Tryd.strconv_FormatInt_10 v hbd.1 hbd.2 w' (var?_below hb gTab (by omega) htab)
    have HC := Lib.hid hcb; have HFM := Lib.hid hf; have HA := Lib.hid hA
    by_cases hq : Lib.itoa v = s.data.toList
    · have hne : (t.toList == s.toList) = true := by rw [str_eq, ht]; simp [hq]
      have hno : numOf s.data.toList = some v := by simp [numOf, hA, hq]
      have HNO := Lib.hid hno
      clear hno hc hcb hf hA hsy hrn htab hq ht
      go_enter Tryd.func28, Tryd.ntmps28
      go_wp2_with (first
        | (go_at_call 40; refine HC.out.mono ?_; rintro e w1 ⟨rfl, hb⟩)
        | (go_at_call 41; refine (HFM.out _ hb).mono ?_; rintro e w2 ⟨rfl, k, os, rfl⟩))
      go_ret2
      exact ⟨by rw [numV, HNO.out]; rfl, hb.trans (below_grow.mono hb.size)⟩
    · have hne : (t.toList == s.toList) = false := by rw [str_eq, ht]; simp [bytes_ext, hq]
      have hno : numOf s.data.toList = none := by simp [numOf, hA, hq]
      have HNO := Lib.hid hno
      clear hno hc hcb hf hA hsy hrn htab hq ht
      go_enter Tryd.func28, Tryd.ntmps28
      go_wp2_with (first
        | (go_at_call 40; refine HC.out.mono ?_; rintro e w1 ⟨rfl, hb⟩)
        | (go_at_call 41; refine (HFM.out _ hb).mono ?_; rintro e w2 ⟨rfl, k, os, rfl⟩))
      go_ret2
      exact ⟨by rw [numV, HNO.out]; rfl, hb.trans (below_grow.mono hb.size)⟩

def numF (s : List UInt8) : Int := if numE s = 0 then numV s else 0
def NuP (w : World) (s : ByteArray) (e : Ending) (w' : World) : Prop :=
  e = .returned (.tuple #[.int .i64 (numF s.data.toList), .int .i64 (numE s.data.toList)]) ∧ Below w.heap.size w w'
set_option maxHeartbeats 1000000 in
set_option maxRecDepth 100000 in
theorem number_any (s : ByteArray) (w : World) (hE : EnvN w) (hs : s.size ≤ 100000) : Calls Tryd.prog 31 #[.string s] w (NuP w s) := by
  obtain ⟨⟨t1, p1, hsy⟩, ⟨t2, p2, hrn⟩, htab, hhi⟩ := hE
  rcases hA : Lib.atoiAll s.data.toList with v | _ | _
  rotate_left
  ·
    have hno : numOf s.data.toList = none := by simp [numOf, hA]
    have hc := Tryd.strconv_Atoi_syntax_var s (by omega) hA t1 p1 w hsy
    have HNO := Lib.hid hno; have HC := Lib.hid hc
    clear hno hc hA hsy hrn htab
    go_enter Tryd.func31, Tryd.ntmps31
    go_wp2_with (go_at_call 43; refine HC.out.mono ?_; rintro e w1 ⟨N, rfl, _, _, hb⟩)
    go_ret2
    exact ⟨by rw [numF, numE, HNO.out]; rfl, hb⟩
  ·
    have hno : numOf s.data.toList = none := by simp [numOf, hA]
    have hc := Tryd.strconv_Atoi_range_var s (by omega) hA t2 p2 w hrn
    have HNO := Lib.hid hno; have HC := Lib.hid hc
    clear hno hc hA hsy hrn htab
    go_enter Tryd.func31, Tryd.ntmps31
    go_wp2_with (go_at_call 43; refine HC.out.mono ?_; rintro e w1 ⟨N, rfl, _, _, hb⟩)
    go_ret2
    exact ⟨by rw [numF, numE, HNO.out]; rfl, hb⟩
  ·
    have hbd := atoi_bd hA
    have hc := Tryd.strconv_Atoi_ok s (by omega) v hA w
    have hcb : Calls Tryd.prog 43 #[.string s] w fun e w' => e = .returned (.tuple #[.int .i64 v, .nilIface]) ∧ Below w.heap.size w w' := hc.mono fun e w' ⟨he, hw⟩ => ⟨he, by
      rcases hw with rfl | ⟨t, rfl⟩
      · exact Below.refl _ _
      · exact Lib.bytesWorld_below _ _ _⟩
    obtain ⟨t, ht⟩ : ∃ t : ByteArray, t = ⟨(Lib.itoa v).toArray⟩ := ⟨_, rfl⟩
    have hf : ∀ w', Below w.heap.size w w' → Calls Tryd.prog 24 #[.int .i64 v] w' fun e w'' => e = .returned (.string t) ∧ ∃ k os, w'' = grow (w'.drewN k) os :=
      fun w' hb => by rw [ht]; exact Tryd.strconv_Itoa v hbd.1 hbd.2 w' (var?_below hb gTab (by omega) htab)
    have HC := Lib.hid hcb; have HFM := Lib.hid hf; have HA := Lib.hid hA
    by_cases hq : Lib.itoa v = s.data.toList
    · have hne : (t.toList == s.toList) = true := by rw [str_eq, ht]; simp [hq]
      have hno : numOf s.data.toList = some v := by simp [numOf, hA, hq]
      have HNO := Lib.hid hno
      clear hno hc hcb hf hA hsy hrn htab hq ht
      by_cases r0 : v < 0
      · have HR := Lib.hid (show numE s.data.toList = 2 by rw [numE, HNO.out]; simp; omega)
        go_enter Tryd.func31, Tryd.ntmps31
        go_wp2_with (first
          | (go_at_call 43; refine HC.out.mono ?_; rintro e w1 ⟨rfl, hb⟩)
          | (go_at_call 24; refine (HFM.out _ hb).mono ?_; rintro e w2 ⟨rfl, k, os, rfl⟩))
        go_ret2
        exact ⟨by rw [numF, HR.out]; rfl, hb.trans (below_grow.mono hb.size)⟩
      · by_cases r1 : 1000000000 < v
        · have HR := Lib.hid (show numE s.data.toList = 2 by rw [numE, HNO.out]; simp; omega)
          go_enter Tryd.func31, Tryd.ntmps31
          go_wp2_with (first
            | (go_at_call 43; refine HC.out.mono ?_; rintro e w1 ⟨rfl, hb⟩)
            | (go_at_call 24; refine (HFM.out _ hb).mono ?_; rintro e w2 ⟨rfl, k, os, rfl⟩))
          go_ret2
          exact ⟨by rw [numF, HR.out]; rfl, hb.trans (below_grow.mono hb.size)⟩
        · have HR := Lib.hid (show numE s.data.toList = 0 by rw [numE, HNO.out]; simp; omega)
          go_enter Tryd.func31, Tryd.ntmps31
          go_wp2_with (first
            | (go_at_call 43; refine HC.out.mono ?_; rintro e w1 ⟨rfl, hb⟩)
            | (go_at_call 24; refine (HFM.out _ hb).mono ?_; rintro e w2 ⟨rfl, k, os, rfl⟩))
          go_ret2
          exact ⟨by rw [numF, HR.out, numV, HNO.out]; rfl, hb.trans (below_grow.mono hb.size)⟩
    · have hne : (t.toList == s.toList) = false := by rw [str_eq, ht]; simp [bytes_ext, hq]
      have hno : numOf s.data.toList = none := by simp [numOf, hA, hq]
      have HNO := Lib.hid hno
      clear hno hc hcb hf hA hsy hrn htab hq ht
      go_enter Tryd.func31, Tryd.ntmps31
      go_wp2_with (first
        | (go_at_call 43; refine HC.out.mono ?_; rintro e w1 ⟨rfl, hb⟩)
        | (go_at_call 24; refine (HFM.out _ hb).mono ?_; rintro e w2 ⟨rfl, k, os, rfl⟩))
      go_ret2
      exact ⟨by rw [numF, numE, HNO.out]; rfl, hb.trans (below_grow.mono hb.size)⟩
end Go.Proofs.YtfjfbiocjloilaaDoor
