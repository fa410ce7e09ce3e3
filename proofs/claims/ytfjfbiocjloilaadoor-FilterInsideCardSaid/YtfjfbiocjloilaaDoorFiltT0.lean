/-
  Plain functions for chapter 11.3: a filter's text, how long it can be; a filter with not ahead of tests alone. No program in sight.
-/
import Derived.Test.YtfjfbiocjloilaaDoorFiltPlain
import Derived.Lib.Join
import Derived.Lib.ItoaLen
namespace Go.Proofs.YtfjfbiocjloilaaDoor
open Go.RowKit

def sepOf (o : Bool) : List UInt8 := if o then [32, 111, 114, 32] else [32, 97, 110, 100, 32]
mutual
/-- A filter's text. -/
def txt : Ast → List UInt8
  | .any => [97, 110, 121]
  | .test f lo hi => (kField f).data.toList ++ [32] ++ Lib.itoa lo ++ (if hi = lo then [] else [46, 46] ++ Lib.itoa hi)
  | .has f lo => (kField f).data.toList ++ [32, 104, 97, 115, 32] ++ Lib.itoa lo
  | .not a => [110, 111, 116, 32] ++ txt a
  | .several o l => [40] ++ Lib.join (txts l) (sepOf o) ++ [41]
def txts : List Ast → List (List UInt8)
  | [] => []
  | a :: l => txt a :: txts l
end
theorem txts_length : ∀ l : List Ast, (txts l).length = l.length
  | [] => by unfold txts; rfl
  | a :: l => by unfold txts; rw [List.length_cons, txts_length l, List.length_cons]
theorem txts_get : ∀ (l : List Ast) (i : Nat) (h : i < l.length), (txts l)[i]? = some (txt l[i])
  | a :: l, 0, _ => by unfold txts; rfl
  | a :: l, i + 1, h => by unfold txts; exact txts_get l i (by simpa using h)
mutual
/-- How many signs it takes at least. -/
def wgt : Ast → Nat
  | .any => 1
  | .test .. => 2
  | .has .. => 2
  | .not a => 1 + wgt a
  | .several _ l => 2 + wgts l
def wgts : List Ast → Nat
  | [] => 0
  | a :: l => wgt a + wgts l
end
theorem wgts_snoc (a : Ast) : ∀ l : List Ast, wgts (l ++ [a]) = wgts l + wgt a
  | [] => by simp [wgts]
  | b :: l => by simp only [List.cons_append, wgts, wgts_snoc a l]; omega
theorem tstGo_wgt {f : Nat} {bits : Bool} {rest r : List Tok} {a : Ast} (h : tstGo f bits rest = .ok a r) : wgt a = 2 ∧ r.length + 1 = rest.length := by
  cases rest with
  | nil => cases h
  | cons t q =>
    simp only [tstGo] at h
    (repeat' split at h) <;> first | (cases h; done) | (injection h with h1 h2; subst h2; subst h1; simp [wgt])
theorem tst_wgt {f : Nat} {rest r : List Tok} {a : Ast} (h : tst f rest = .ok a r) : wgt a = 2 ∧ r.length + 1 ≤ rest.length := by
  unfold tst at h
  split at h
  · rename_i hh
    have := headIs_len hh
    have := tstGo_wgt h
    omega
  · have := tstGo_wgt h
    omega
theorem lst_wgt {o : List Tok → Res} (ho : ∀ rest a r, o rest = .ok a r → wgt a + r.length ≤ rest.length) : ∀ (n word : Nat) (acc : List Ast) (rest r : List Tok) (a : Ast), lst o n word acc rest = .ok a r → wgt a + r.length ≤ 1 + wgts acc + rest.length
  | 0, _, _, _, _, _, h => by cases h
  | n + 1, word, acc, rest, r, a, h => by
    unfold lst at h
    split at h
    · cases h
    · rename_i a1 r1 h1
      have hl := ho _ _ _ h1
      split at h
      · rename_i hh
        have := headIs_len hh
        injection h with h2 h3
        subst h2; subst h3
        simp only [wgt, wgts_snoc]; omega
      · split at h
        · rename_i hh
          have h4 := headIs_len hh.2
          have := lst_wgt ho n _ _ _ _ _ h
          rw [wgts_snoc] at this; omega
        · split at h
          · rename_i hh
            have h4 := headIs_len hh.2
            have := lst_wgt ho n _ _ _ _ _ h
            rw [wgts_snoc] at this; omega
          · cases h
theorem one_wgt : ∀ (d : Nat) (rest : List Tok) (a : Ast) (r : List Tok), one d rest = .ok a r → wgt a + r.length ≤ rest.length
  | 0, _, _, _, h => by cases h
  | d + 1, rest, a, r, h => by
    unfold one at h
    split at h
    · rename_i hh
      have := headIs_len hh
      injection h with h1 h2
      subst h1; subst h2
      simp only [wgt]; omega
    · split at h
      · rename_i hh
        have := headIs_len hh
        split at h
        · cases h
        · rename_i a1 r1 h1
          have := one_wgt d _ _ _ h1
          injection h with h2 h3
          subst h2; subst h3
          simp only [wgt]; omega
      · split at h
        · rename_i hh
          have := headIs_len hh
          have := lst_wgt (one_wgt d) _ _ _ _ _ _ h
          simp only [wgts] at this; omega
        · split at h
          · rename_i hf
            have h1 := tst_wgt h
            have h2 : rest.tail.length + 1 = rest.length := by
              cases rest with
              | nil =>
                exfalso
                have h3 := h1.2
                simp at h3
              | cons t q => simp
            omega
          · cases h
mutual
/-- Its numbers are such as are read. -/
def AstOk : Ast → Prop
  | .any => True
  | .test _ lo hi => (0 ≤ lo ∧ lo ≤ 1000000000) ∧ 0 ≤ hi ∧ hi ≤ 1000000000
  | .has _ lo => 0 ≤ lo ∧ lo ≤ 1000000000
  | .not a => AstOk a
  | .several _ l => AstsOk l
def AstsOk : List Ast → Prop
  | [] => True
  | a :: l => AstOk a ∧ AstsOk l
end
theorem kField_len (f : Nat) : (kField f).data.toList.length ≤ 4 := by
  unfold kField
  split <;> decide
mutual
theorem txt_len : ∀ {a : Ast}, AstOk a → (txt a).length + 5 ≤ 64 * wgt a
  | .any, _ => by simp [txt, wgt]
  | .test f lo hi, h => by
    have h1 := kField_len f
    unfold AstOk at h
    have h2 := Lib.itoa_length_le lo (by omega) (by omega)
    have h3 := Lib.itoa_length_le hi (by omega) (by omega)
    simp only [txt, wgt, List.length_append]
    split <;> simp only [List.length_append, List.length_cons, List.length_nil] <;> omega
  | .has f lo, h => by
    have h1 := kField_len f
    unfold AstOk at h
    have h2 := Lib.itoa_length_le lo (by omega) (by omega)
    simp only [txt, wgt, List.length_append, List.length_cons, List.length_nil]
    omega
  | .not a, h => by
    unfold AstOk at h
    have := txt_len h
    simp only [txt, wgt, List.length_append, List.length_cons, List.length_nil]
    omega
  | .several o l, h => by
    unfold AstOk at h
    have h1 := txts_len h
    have h2 : (Lib.join (txts l) (sepOf o)).length ≤ 5 * (txts l).length + Lib.lens (txts l) := by
      cases txts l with
      | nil => simp [Lib.join_nil]
      | cons x r =>
        rw [Lib.join_length]
        have : (sepOf o).length ≤ 5 := by cases o <;> decide
        have := Nat.mul_le_mul_right r.length this
        simp only [List.length_cons]; omega
    simp only [txt, wgt, List.length_append, List.length_cons, List.length_nil]
    omega
theorem txts_len : ∀ {l : List Ast}, AstsOk l → 5 * (txts l).length + Lib.lens (txts l) ≤ 64 * wgts l
  | [], _ => by simp [txts, wgts, Lib.lens]
  | a :: l, h => by
    unfold AstsOk at h
    have h1 := txt_len h.1
    have h2 := txts_len h.2
    simp only [txts, wgts, Lib.lens, List.map_cons, List.sum_cons, List.length_cons] at h2 ⊢
    omega
end
end Go.Proofs.YtfjfbiocjloilaaDoor
