/-
  Plain functions for chapter 11.3: the same filter with not ahead of tests alone. No program in sight.
-/
import Derived.Test.YtfjfbiocjloilaaDoorFiltT0
namespace Go.Proofs.YtfjfbiocjloilaaDoor
open Go.RowKit

mutual
/-- As it is, or as not of it. -/
def ins (t : Bool) : Ast → Ast
  | .not a => ins (!t) a
  | .several o l => .several (if t then !o else o) (inss t l)
  | .any => if t then .not .any else .any
  | .test f lo hi => if t then .not (.test f lo hi) else .test f lo hi
  | .has f lo => if t then .not (.has f lo) else .has f lo
def inss (t : Bool) : List Ast → List Ast
  | [] => []
  | a :: l => ins t a :: inss t l
end
theorem inss_length (t : Bool) : ∀ l : List Ast, (inss t l).length = l.length
  | [] => by unfold inss; rfl
  | a :: l => by unfold inss; rw [List.length_cons, inss_length t l, List.length_cons]
theorem inss_get (t : Bool) : ∀ (l : List Ast) (i : Nat) (h : i < l.length), (inss t l)[i]? = some (ins t l[i])
  | a :: l, 0, _ => by unfold inss; rfl
  | a :: l, i + 1, h => by unfold inss; exact inss_get t l i (by simpa using h)
theorem inss_take_succ (t : Bool) {l : List Ast} {k : Nat} (h : k < l.length) : (inss t l).take (k + 1) = (inss t l).take k ++ [ins t l[k]] := by
  have hk : k < (inss t l).length := by rw [inss_length]; exact h
  rw [List.take_succ_eq_append_getElem hk]
  have := inss_get t l k h
  rw [List.getElem?_eq_getElem hk] at this
  rw [Option.some.inj this]
mutual
theorem ins_wgt : ∀ (t : Bool) (a : Ast), 1 ≤ wgt a ∧ wgt (ins t a) ≤ 2 * wgt a
  | t, .not a => by
    have := ins_wgt (!t) a
    simp only [ins, wgt]; omega
  | t, .several o l => by
    have := inss_wgt t l
    simp only [ins, wgt]; omega
  | t, .any => by cases t <;> simp [ins, wgt]
  | t, .test f lo hi => by cases t <;> simp [ins, wgt]
  | t, .has f lo => by cases t <;> simp [ins, wgt]
theorem inss_wgt : ∀ (t : Bool) (l : List Ast), wgts (inss t l) ≤ 2 * wgts l
  | t, [] => by simp [inss, wgts]
  | t, a :: l => by
    have h1 := ins_wgt t a
    have h2 := inss_wgt t l
    simp only [inss, wgts]; omega
end
end Go.Proofs.YtfjfbiocjloilaaDoor
