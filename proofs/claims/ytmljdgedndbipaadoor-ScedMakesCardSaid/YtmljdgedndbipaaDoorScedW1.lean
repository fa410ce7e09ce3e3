/-
  What is proved here: Check of curves and of flows (10.1), of the program and of the document's reference, by their contracts.
-/
import Derived.Test.YtmljdgedndbipaaDoorScedPlain
import Derived.Test.YtmljdgedndbipaaDoorProg
import Derived.BigQuiet
import Derived.Deep.QuietTactic
namespace Go.Proofs.YtmljdgedndbipaaDoor
open Go.RowKit

/-- An error of an Errno: nil at 0. -/
def errV (e : Int) : Value := if e = 0 then .nilIface else .iface 26 (.int .i64 e)
theorem errV_zero {e : Int} (h : e = 0) : errV e = .nilIface := by simp [errV, h]
theorem errV_ne {e : Int} (h : e ≠ 0) : errV e = .iface 26 (.int .i64 e) := by simp [errV, h]
theorem ret_err {e : Int} {n : Int} (h : e = n) (h0 : n ≠ 0) : Ending.returned (.iface 26 (.int .i64 n)) = Ending.returned (errV e) := by rw [h, errV_ne h0]
theorem ret_nil {e : Int} (h : e = 0) : Ending.returned .nilIface = Ending.returned (errV e) := by rw [errV_zero h]

theorem within_yes (n lo hi : Int) (w : World) (h1 : lo ≤ n) (h2 : n ≤ hi) :
    Calls Tryd.prog 11 #[.int .i64 n, .int .i64 lo, .int .i64 hi] w fun e w' => e = .returned (.bool true) ∧ w = w' := by
  go_enter Tryd.func11, Tryd.ntmps11
  go_wp2
  go_ret
  simp
theorem within_no (n lo hi : Int) (w : World) (h : ¬ (lo ≤ n ∧ n ≤ hi)) :
    Calls Tryd.prog 11 #[.int .i64 n, .int .i64 lo, .int .i64 hi] w fun e w' => e = .returned (.bool false) ∧ w = w' := by
  have h' : n < lo ∨ hi < n := by omega
  rcases h' with h1 | h1
  · go_enter Tryd.func11, Tryd.ntmps11
    go_wp2
    go_ret
    simp
  · by_cases h2 : lo ≤ n
    · go_enter Tryd.func11, Tryd.ntmps11
      go_wp2
      go_ret
      simp [h1]
    · go_enter Tryd.func11, Tryd.ntmps11
      go_wp2
      go_ret
      simp

set_option maxHeartbeats 1000000 in
theorem CurveCheck_any (v : Value) (xs : List Int) (w : World) (h : Ints w v xs) :
    Calls Tryd.prog 12 #[v] w fun e w' => e = .returned (.int .i64 (curveChk xs)) ∧ w = w' := by
  obtain ⟨a, cap, rfl, hl, hc⟩ := h
  by_cases hlen : 1 ≤ xs.length ∧ xs.length ≤ 201
  · have hcc : curveChk xs = curveGo xs xs.length 0 := if_pos hlen
    obtain ⟨h1, h2⟩ := hlen
    rw [hcc]; clear hcc
    obtain ⟨b, off, rfl, hcell⟩ := hc (by omega)
    clear hc
    go_enter Tryd.func12, Tryd.ntmps12
    go_wp2_with (go_at_call 11; refine (within_yes _ _ _ _ (by omega) (by omega)).mono ?_; rintro e w' ⟨rfl, rfl⟩)
    go_loopg [11] xs.length (fun g i wr => wr = w ∧ ∃ k : Nat, k + g = xs.length ∧ i = .int .i64 k ∧ curveGo xs xs.length 0 = curveGo xs g k)
    case atStart => exact ⟨rfl, 0, by omega, rfl, rfl⟩
    case round =>
      obtain ⟨rfl, k, hk, rfl, hgo⟩ := hrel
      have HG := Lib.hid hgo; clear hgo
      by_cases hlt : k < xs.length
      · have hck := hcell k hlt
        obtain ⟨n, rfl⟩ : ∃ n, gk = n + 1 := ⟨gk - 1, by omega⟩
        have HX := Lib.hid hcell; clear hcell
        by_cases hin : 0 ≤ gi xs k ∧ gi xs k ≤ 1000000000000
        · by_cases hord : 0 < k ∧ gi xs k < gi xs (k - 1)
          · obtain ⟨ho1, ho2⟩ := hord
            have hck1 := HX.out (k - 1) (by omega)
            go_wp2_with (go_at_call 11; refine (within_yes _ _ _ _ (by omega) (by omega)).mono ?_; rintro e w' ⟨rfl, rfl⟩)
            go_ret
            exact ⟨ret_int (by rw [HG.out, curveGo_ord _ _ _ hin ⟨ho1, ho2⟩]), rfl⟩
          · by_cases h0 : 0 < k
            · have hck1 := HX.out (k - 1) (by omega)
              have ho2 : ¬ gi xs k < gi xs (k - 1) := fun h => hord ⟨h0, h⟩
              go_wp2_with (go_at_call 11; refine (within_yes _ _ _ _ (by omega) (by omega)).mono ?_; rintro e w' ⟨rfl, rfl⟩)
              go_roundg n
              case measure => omega
              case rel => exact ⟨rfl, k + 1, by omega, by go_num, by rw [HG.out, curveGo_on _ _ _ hin hord]⟩
            · go_wp2_with (go_at_call 11; refine (within_yes _ _ _ _ (by omega) (by omega)).mono ?_; rintro e w' ⟨rfl, rfl⟩)
              go_roundg n
              case measure => omega
              case rel => exact ⟨rfl, k + 1, by omega, by go_num, by rw [HG.out, curveGo_on _ _ _ hin hord]⟩
        · go_wp2_with (go_at_call 11; refine (within_no _ _ _ _ hin).mono ?_; rintro e w' ⟨rfl, rfl⟩)
          go_ret
          exact ⟨ret_int (by rw [HG.out, curveGo_bad _ _ _ hin]), rfl⟩
      · go_wp2
        go_ret
        exact ⟨ret_int (by rw [HG.out, show gk = 0 by omega]; rfl), rfl⟩
  · have hcc : curveChk xs = 4 := if_neg hlen
    rw [hcc]; clear hcc
    go_enter Tryd.func12, Tryd.ntmps12
    go_wp2_with (go_at_call 11; refine (within_no _ _ _ _ (by omega)).mono ?_; rintro e w' ⟨rfl, rfl⟩)
    go_ret
    exact ⟨rfl, rfl⟩

set_option maxHeartbeats 1000000 in
theorem Check_any (v : Value) (xs : List Int) (w : World) (h : Ints w v xs) :
    Calls Tryd.prog 19 #[v] w fun e w' => e = .returned (errV (curveChk xs)) ∧ w = w' := by
  obtain ⟨a, cap, rfl, hl, hc⟩ := h
  by_cases hlen : 1 ≤ xs.length ∧ xs.length ≤ 201
  · have hcc : curveChk xs = curveGo xs xs.length 0 := if_pos hlen
    obtain ⟨h1, h2⟩ := hlen
    rw [hcc]; clear hcc
    obtain ⟨b, off, rfl, hcell⟩ := hc (by omega)
    clear hc
    go_enter Tryd.func19, Tryd.ntmps19
    go_wp2
    go_loopg [16] xs.length (fun g i wr => wr = w ∧ ∃ k : Nat, k + g = xs.length ∧ i = .int .i64 k ∧ curveGo xs xs.length 0 = curveGo xs g k)
    case atStart => exact ⟨rfl, 0, by omega, rfl, rfl⟩
    case round =>
      obtain ⟨rfl, k, hk, rfl, hgo⟩ := hrel
      have HG := Lib.hid hgo; clear hgo
      by_cases hlt : k < xs.length
      · have hck := hcell k hlt
        obtain ⟨n, rfl⟩ : ∃ n, gk = n + 1 := ⟨gk - 1, by omega⟩
        have HX := Lib.hid hcell; clear hcell
        by_cases hin : 0 ≤ gi xs k ∧ gi xs k ≤ 1000000000000
        · by_cases hord : 0 < k ∧ gi xs k < gi xs (k - 1)
          · obtain ⟨ho1, ho2⟩ := hord
            have hck1 := HX.out (k - 1) (by omega)
            obtain ⟨hi1, hi2⟩ := hin
            go_wp2
            go_ret
            exact ⟨ret_err (by rw [HG.out, curveGo_ord _ _ _ ⟨hi1, hi2⟩ ⟨ho1, ho2⟩]) (by decide), rfl⟩
          · by_cases h0 : 0 < k
            · have hck1 := HX.out (k - 1) (by omega)
              have ho2 : ¬ gi xs k < gi xs (k - 1) := fun h => hord ⟨h0, h⟩
              obtain ⟨hi1, hi2⟩ := hin
              have HO := Lib.hid hord; clear hord
              go_wp2
              go_roundg n
              case measure => omega
              case rel => exact ⟨rfl, k + 1, by omega, by go_num, by rw [HG.out, curveGo_on _ _ _ ⟨hi1, hi2⟩ HO.out]⟩
            · obtain ⟨hi1, hi2⟩ := hin
              have HO := Lib.hid hord; clear hord
              go_wp2
              go_roundg n
              case measure => omega
              case rel => exact ⟨rfl, k + 1, by omega, by go_num, by rw [HG.out, curveGo_on _ _ _ ⟨hi1, hi2⟩ HO.out]⟩
        · have hin' : gi xs k < 0 ∨ 1000000000000 < gi xs k := by omega
          have HN := Lib.hid hin; clear hin
          rcases hin' with hi1 | hi1
          · go_wp2
            go_ret
            exact ⟨ret_err (by rw [HG.out, curveGo_bad _ _ _ HN.out]) (by decide), rfl⟩
          · have hi2 : ¬ gi xs k < 0 := by omega
            go_wp2
            go_ret
            exact ⟨ret_err (by rw [HG.out, curveGo_bad _ _ _ HN.out]) (by decide), rfl⟩
      · go_wp2
        go_ret
        exact ⟨ret_nil (by rw [HG.out, show gk = 0 by omega]; rfl), rfl⟩
  · have hcc : curveChk xs = 4 := if_neg hlen
    rw [hcc]; clear hcc
    have hlen' : xs.length = 0 ∨ 201 < xs.length := by omega
    rcases hlen' with h1 | h1
    · have h2 : xs.length < 1 := by omega
      clear hlen h1
      go_enter Tryd.func19, Tryd.ntmps19
      go_wp2
      go_ret
      exact ⟨ret_err rfl (by decide), rfl⟩
    · have h2 : ¬ xs.length < 1 := by omega
      clear hlen
      go_enter Tryd.func19, Tryd.ntmps19
      go_wp2
      go_ret
      exact ⟨ret_err rfl (by decide), rfl⟩
theorem Check_ok (v : Value) (xs : List Int) (w : World) (h : Ints w v xs) (h0 : curveChk xs = 0) :
    Calls Tryd.prog 19 #[v] w fun e w' => e = .returned .nilIface ∧ w = w' := by
  have := Check_any v xs w h; rwa [errV_zero h0] at this
theorem Check_bad (v : Value) (xs : List Int) (w : World) (h : Ints w v xs) (h0 : curveChk xs ≠ 0) :
    Calls Tryd.prog 19 #[v] w fun e w' => e = .returned (.iface 26 (.int .i64 (curveChk xs))) ∧ w = w' := by
  have := Check_any v xs w h; rwa [errV_ne h0] at this
end Go.Proofs.YtmljdgedndbipaaDoor
