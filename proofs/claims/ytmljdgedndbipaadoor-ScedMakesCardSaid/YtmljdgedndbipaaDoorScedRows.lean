/-
  Plain facts on the reference's two rows of rows (10.2): what each flow was promised and got, cell by cell. No program in sight.
-/
import Derived.Test.YtmljdgedndbipaaDoorScedCells
namespace Go.Proofs.YtmljdgedndbipaaDoor
open Go.RowKit

theorem take_step {xs : List Int} {k : Nat} (h : k < xs.length) : xs.take k ++ [gi xs k] = xs.take (k + 1) := by
  rw [gi_eq h, List.take_append_getElem]
section
variable (T : Nat) (D come : Nat → List Int) (F : Nat)
/-- Both rows of rows behind m cells. -/
def row2 (m i : Nat) : List Int :=
  if i < F then (D i).take (m - baseN come i) else (padM (thrL T D come F T (i - F)) (D (i - F)).length).take (m - baseN come (i - F))
end
section
variable {T : Nat} {D come : Nat → List Int} {F : Nat}
theorem row2_zero (i : Nat) : row2 T D come F 0 i = [] := by unfold row2; split <;> simp
theorem row2_len (m i : Nat) : (row2 T D come F m i).length ≤ m := by unfold row2; split <;> (rw [List.length_take]; omega)
theorem padM_length {xs : List Int} {n : Nat} (h : xs.length ≤ n) : (padM xs n).length = n := by simp [padM]; omega
theorem gi_padM {xs : List Int} {n k : Nat} (hk : k < n) : gi (padM xs n) k = if k < xs.length then gi xs k else -1 := by
  split
  · rename_i h; rw [padM, gi_append_left h]
  · rename_i h
    have e : k = xs.length + (k - xs.length) := by omega
    rw [padM, e, gi_append_at, gi_eq (by simp; omega)]
    simp
theorem row2_step (hD : ∀ i, i < F → (D i).length = cellsN (come i)) (hS : ∀ i, i < F → (thrL T D come F T i).length ≤ cellsN (come i)) {i k : Nat} (hi : i < F) (hk : k < cellsN (come i)) {j : Nat} (hj : j < 2 * F) :
    upd (upd (row2 T D come F (baseN come i + k)) i (row2 T D come F (baseN come i + k) i ++ [dueV D come F (baseN come i + k)])) (F + i) (row2 T D come F (baseN come i + k) (F + i) ++ [thrV T D come F T (baseN come i + k)]) j = row2 T D come F (baseN come i + k + 1) j := by
  have len2 : ∀ x, x < F → (padM (thrL T D come F T x) (D x).length).length = cellsN (come x) := fun x hx => by rw [padM_length (by rw [hD x hx]; exact hS x hx), hD x hx]
  have off : ∀ (xs : List Int) (x : Nat), x < F → x ≠ i → xs.length = cellsN (come x) → xs.take (baseN come i + k - baseN come x) = xs.take (baseN come i + k + 1 - baseN come x) := by
    intro xs x hx hxi hl
    rcases Nat.lt_or_ge x i with h1 | h1
    · have := baseN_mono come (show x + 1 ≤ i by omega)
      simp only [baseN] at this
      rw [List.take_of_length_le (by omega), List.take_of_length_le (by omega)]
    · have := baseN_mono come (show i + 1 ≤ x by omega)
      simp only [baseN] at this
      rw [show baseN come i + k - baseN come x = 0 by omega, show baseN come i + k + 1 - baseN come x = 0 by omega]
  have e1 : baseN come i + k - baseN come i = k := by omega
  have e2 : baseN come i + k + 1 - baseN come i = k + 1 := by omega
  by_cases h1 : j = F + i
  · subst h1
    rw [upd_at, row2, row2, if_neg (by omega), if_neg (by omega), show F + i - F = i by omega, e1, e2, thrV_place hi hk, ← take_step (by rw [len2 i hi]; exact hk), gi_padM (by rw [hD i hi]; exact hk), thrL_length]
  · rw [upd_off h1]
    by_cases h2 : j = i
    · subst h2
      rw [upd_at, row2, row2, if_pos hi, if_pos hi, e1, e2, dueV_place hi hk, take_step (by rw [hD _ hi]; exact hk)]
    · rw [upd_off h2, row2, row2]
      split
      · rename_i hj1; exact off _ j hj1 h2 (hD j hj1)
      · rename_i hj1; exact off _ (j - F) (by omega) (by omega) (len2 _ (by omega))
theorem row2_next (hD : ∀ i, i < F → (D i).length = cellsN (come i)) (hS : ∀ i, i < F → (thrL T D come F T i).length ≤ cellsN (come i)) {m : Nat} (hm : m < baseN come F) {j : Nat} (hj : j < 2 * F) :
    upd (upd (row2 T D come F m) (flAt come F m) (row2 T D come F m (flAt come F m) ++ [dueV D come F m])) (F + flAt come F m) (row2 T D come F m (F + flAt come F m) ++ [thrV T D come F T m]) j = row2 T D come F (m + 1) j := by
  obtain ⟨i, k, hi, hk, he⟩ := place_of come F m hm
  subst he
  rw [flAt_eq hk F hi]
  exact row2_step hD hS hi hk hj
theorem stS_cells (hc : ∀ i, i < F → Come (come i)) (t : Nat) {i : Nat} (hi : i < F) : stS T D come F t i ≤ cellsN (come i) := by
  have hle := stS_le (T := T) (D := D) hc t i hi
  have h0 := pre_bd (hc i hi) (come i).length (Nat.le_refl _)
  rcases Nat.lt_or_ge t (come i).length with h3 | h3
  · have := pre_mono (hc i hi) (show t ≤ (come i).length by omega)
    unfold cellsN; omega
  · rw [pre_past h3] at hle; unfold cellsN; omega
theorem row2_full (hD : ∀ i, i < F → (D i).length = cellsN (come i)) (hS : ∀ i, i < F → (thrL T D come F T i).length ≤ cellsN (come i)) {i : Nat} (hi : i < F) :
    row2 T D come F (baseN come F) i = D i ∧ row2 T D come F (baseN come F) (F + i) = padM (thrL T D come F T i) (D i).length := by
  have := baseN_mono come (show i + 1 ≤ F by omega)
  simp only [baseN] at this
  constructor
  · rw [row2, if_pos hi, List.take_of_length_le (by rw [hD i hi]; omega)]
  · rw [row2, if_neg (by omega), show F + i - F = i by omega, List.take_of_length_le (by rw [padM_length (by rw [hD i hi]; exact hS i hi), hD i hi]; omega)]
end
end Go.Proofs.YtmljdgedndbipaaDoor
