/-
  Plain functions for chapter 11: signs of a text, what a filter's text is read as, which packets a filter means. No program in sight.
-/
import Derived.Test.YtfjfbiocjloilaaDoorBase
import Derived.Lib.AtoiAll
import Derived.Lib.ItoaNum
import Derived.Lib.Index
import Derived.Lib.IndexMore
namespace Go.Proofs.YtfjfbiocjloilaaDoor
open Go.RowKit

/-! ### signs -/
abbrev Tok := ByteArray × Nat
def isSep (c : UInt8) : Bool := c == 32 || c == 40 || c == 41
/-- The end of the word that is under way at k. -/
def wordEnd (s : ByteArray) : Nat → Nat → Nat
  | 0, k => k
  | n + 1, k => if h : k < s.size then (if isSep s[k] then k else wordEnd s n (k + 1)) else k
/-- The signs from i on. -/
def tokGo (s : ByteArray) : Nat → Nat → List Tok
  | 0, _ => []
  | n + 1, i =>
    if h : i < s.size then
      if s[i] = 32 then tokGo s n (i + 1)
      else if s[i] = 40 ∨ s[i] = 41 then (s.extract i (i + 1), i) :: tokGo s n (i + 1)
      else (s.extract i (wordEnd s (s.size - i) i), i) :: tokGo s n (wordEnd s (s.size - i) i)
    else []
def toks (s : ByteArray) : List Tok := tokGo s (s.size + 1) 0
theorem wordEnd_ge (s : ByteArray) : ∀ n k, k ≤ wordEnd s n k
  | 0, k => Nat.le_refl _
  | n + 1, k => by
    unfold wordEnd
    split
    · split
      · exact Nat.le_refl _
      · exact Nat.le_trans (by omega) (wordEnd_ge s n (k + 1))
    · exact Nat.le_refl _
theorem wordEnd_le (s : ByteArray) : ∀ n k, k ≤ s.size → wordEnd s n k ≤ s.size
  | 0, k, h => h
  | n + 1, k, h => by
    unfold wordEnd
    split
    · split
      · exact h
      · exact wordEnd_le s n (k + 1) (by omega)
    · exact h
theorem wordEnd_gt {s : ByteArray} {n k : Nat} (h : k < s.size) (hs : isSep s[k] = false) : k < wordEnd s (n + 1) k := by
  unfold wordEnd
  rw [dif_pos h, hs]
  exact Nat.lt_of_lt_of_le (by omega) (wordEnd_ge s n (k + 1))
theorem wordEnd_stop {s : ByteArray} {n k : Nat} (h : k < s.size) (hs : isSep s[k] = true) : wordEnd s n k = k := by
  cases n with
  | zero => rfl
  | succ n => unfold wordEnd; rw [dif_pos h, hs]; rfl
theorem wordEnd_end {s : ByteArray} {n k : Nat} (h : s.size ≤ k) : wordEnd s n k = k := by
  cases n with
  | zero => rfl
  | succ n => unfold wordEnd; rw [dif_neg (by omega)]
theorem wordEnd_step {s : ByteArray} {k : Nat} (h : k < s.size) (hs : isSep s[k] = false) : wordEnd s (s.size - k) k = wordEnd s (s.size - (k + 1)) (k + 1) := by
  rw [show s.size - k = (s.size - (k + 1)) + 1 by omega]
  conv => lhs; unfold wordEnd
  rw [dif_pos h, hs]; rfl
/-- More fuel than bytes are left: no difference. -/
theorem tokGo_fuel (s : ByteArray) : ∀ n m i, s.size < n + i → s.size < m + i → tokGo s n i = tokGo s m i
  | 0, m, i, h, _ => by
    cases m with
    | zero => rfl
    | succ m => unfold tokGo; rw [dif_neg (by omega)]
  | n + 1, 0, i, _, h => by unfold tokGo; rw [dif_neg (by omega)]
  | n + 1, m + 1, i, h1, h2 => by
    unfold tokGo
    split
    · rename_i h
      have hw := wordEnd_ge s (s.size - i) i
      split
      · exact tokGo_fuel s n m (i + 1) (by omega) (by omega)
      · rename_i hs
        split
        · rw [tokGo_fuel s n m (i + 1) (by omega) (by omega)]
        · rename_i hp
          have hg : i < wordEnd s (s.size - i) i := by
            rw [show s.size - i = (s.size - i - 1) + 1 by omega]
            exact wordEnd_gt h (by simp [isSep, hs]; simpa using hp)
          rw [tokGo_fuel s n m _ (by omega) (by omega)]
    · rfl
/-- The signs from i on, with fuel enough. -/
def toksAt (s : ByteArray) (i : Nat) : List Tok := tokGo s (s.size + 1 - i) i
theorem toksAt_zero (s : ByteArray) : toksAt s 0 = toks s := rfl
theorem toksAt_end {s : ByteArray} {i : Nat} (h : s.size ≤ i) : toksAt s i = [] := by
  unfold toksAt
  cases s.size + 1 - i with
  | zero => rfl
  | succ n => unfold tokGo; rw [dif_neg (by omega)]
theorem toksAt_blank {s : ByteArray} {i : Nat} (h : i < s.size) (hc : s[i] = 32) : toksAt s i = toksAt s (i + 1) := by
  unfold toksAt
  rw [show s.size + 1 - i = (s.size + 1 - (i + 1)) + 1 by omega]
  conv => lhs; unfold tokGo
  rw [dif_pos h, if_pos hc]
theorem toksAt_mark {s : ByteArray} {i : Nat} (h : i < s.size) (hc : s[i] = 40 ∨ s[i] = 41) : toksAt s i = (s.extract i (i + 1), i) :: toksAt s (i + 1) := by
  unfold toksAt
  rw [show s.size + 1 - i = (s.size + 1 - (i + 1)) + 1 by omega]
  conv => lhs; unfold tokGo
  rw [dif_pos h, if_neg (by rcases hc with h | h <;> rw [h] <;> decide), if_pos hc]
theorem toksAt_word {s : ByteArray} {i : Nat} (h : i < s.size) (hc : isSep s[i] = false) :
    toksAt s i = (s.extract i (wordEnd s (s.size - i) i), i) :: toksAt s (wordEnd s (s.size - i) i) := by
  have h1 : ¬ s[i] = 32 := fun e => by rw [e] at hc; cases hc
  have h2 : ¬ (s[i] = 40 ∨ s[i] = 41) := fun e => by rcases e with e | e <;> (rw [e] at hc; cases hc)
  have hg : i < wordEnd s (s.size - i) i := by
    rw [show s.size - i = (s.size - i - 1) + 1 by omega]
    exact wordEnd_gt h hc
  unfold toksAt
  rw [show s.size + 1 - i = (s.size + 1 - (i + 1)) + 1 by omega]
  conv => lhs; unfold tokGo
  rw [dif_pos h, if_neg h1, if_neg h2, tokGo_fuel s _ (s.size + 1 - wordEnd s (s.size - i) i) _ (by omega) (by have := wordEnd_le s (s.size - i) i (by omega); omega)]

/-! ### numbers -/
def numOf (s : List UInt8) : Option Int := match Lib.atoiAll s with
  | .ok v => if Lib.itoa v = s then some v else none
  | _ => none
/-- A number of a filter: its error, and it (0, if it is none). -/
def numE (s : List UInt8) : Int := match numOf s with
  | none => 3
  | some v => if 0 ≤ v ∧ v ≤ 1000000000 then 0 else 2
def numV (s : List UInt8) : Int := (numOf s).getD 0

/-! ### filters -/
inductive Ast where
  | any
  | test (field : Nat) (low high : Int)
  | has (field : Nat) (low : Int)
  | not (a : Ast)
  | several (or : Bool) (l : List Ast)
inductive Res where
  | err (e : Int) (rest : List Tok)
  | ok (a : Ast) (rest : List Tok)
def headIs (rest : List Tok) (w : ByteArray) : Bool := match rest with
  | [] => false
  | t :: _ => t.1 == w
def kAny : ByteArray := ⟨#[97, 110, 121]⟩
def kNot : ByteArray := ⟨#[110, 111, 116]⟩
def kOpen : ByteArray := ⟨#[40]⟩
def kShut : ByteArray := ⟨#[41]⟩
def kAnd : ByteArray := ⟨#[97, 110, 100]⟩
def kOr : ByteArray := ⟨#[111, 114]⟩
def kHas : ByteArray := ⟨#[104, 97, 115]⟩
def kField : Nat → ByteArray
  | 0 => ⟨#[97, 116]⟩
  | 1 => ⟨#[108, 101, 110]⟩
  | 2 => ⟨#[102, 108, 111, 119]⟩
  | 3 => ⟨#[98, 97, 110, 100]⟩
  | _ => ⟨#[109, 97, 114, 107]⟩
def dots : List UInt8 := [46, 46]
/-- Behind the field's name, and perhaps 'has'. -/
def tstGo (f : Nat) (bits : Bool) : List Tok → Res
  | [] => .err 3 []
  | t :: r =>
    if Lib.index t.1.data.toList dots < 0 then
      if numE t.1.data.toList ≠ 0 then .err (numE t.1.data.toList) (t :: r)
      else .ok (if bits then .has f (numV t.1.data.toList) else .test f (numV t.1.data.toList) (numV t.1.data.toList)) r
    else if bits then .err 3 (t :: r)
    else if numE (Lib.cut t.1.data.toList dots).1 ≠ 0 then .err (numE (Lib.cut t.1.data.toList dots).1) (t :: r)
    else if numE (Lib.cut t.1.data.toList dots).2.1 ≠ 0 then .err (numE (Lib.cut t.1.data.toList dots).2.1) (t :: r)
    else if numV (Lib.cut t.1.data.toList dots).2.1 < numV (Lib.cut t.1.data.toList dots).1 then .err 10 (t :: r)
    else .ok (.test f (numV (Lib.cut t.1.data.toList dots).1) (numV (Lib.cut t.1.data.toList dots).2.1)) r
def tst (f : Nat) (rest : List Tok) : Res := if headIs rest kHas then tstGo f true rest.tail else tstGo f false rest
/-- Which field's name stands there, from i on (5: none). -/
def fieldAt (rest : List Tok) : Nat → Nat → Nat
  | 0, _ => 5
  | n + 1, i => if headIs rest (kField i) then i else fieldAt rest n (i + 1)
/-- What stands in parentheses: word: 0 nothing yet, 1 and, 2 or. -/
def lst (one : List Tok → Res) : Nat → Nat → List Ast → List Tok → Res
  | 0, _, _, rest => .err 3 rest
  | n + 1, word, acc, rest => match one rest with
    | .err e r => .err e r
    | .ok a r =>
      if headIs r kShut then .ok (.several (word == 2) (acc ++ [a])) r.tail
      else if word ≠ 2 ∧ headIs r kAnd = true then lst one n 1 (acc ++ [a]) r.tail
      else if word ≠ 1 ∧ headIs r kOr = true then lst one n 2 (acc ++ [a]) r.tail
      else .err 3 r
def one : Nat → List Tok → Res
  | 0, rest => .err 4 rest
  | d + 1, rest =>
    if headIs rest kAny then .ok .any rest.tail
    else if headIs rest kNot then (match one d rest.tail with
      | .err e r => .err e r
      | .ok a r => .ok (.not a) r)
    else if headIs rest kOpen then lst (one d) rest.length 0 [] rest.tail
    else if fieldAt rest 5 0 < 5 then tst (fieldAt rest 5 0) rest.tail
    else .err 3 rest
/-- The whole: the error's number (0: none), at which byte, and the filter. -/
def parseE (s : ByteArray) : Int × Int × Option Ast :=
  if 2000 < s.size then (4, -1, none)
  else match one 20 (toks s) with
    | .err e r => (e, ((r.head?.map (·.2)).getD s.size : Nat), none)
    | .ok a r => if r = [] then (0, -1, some a) else (3, ((r.head?.map (·.2)).getD s.size : Nat), none)

theorem headIs_len {rest : List Tok} {w : ByteArray} (h : headIs rest w = true) : rest.tail.length + 1 = rest.length := by
  cases rest with
  | nil => cases h
  | cons t r => simp
theorem tstGo_len {f : Nat} {bits : Bool} {rest r : List Tok} {a : Ast} (h : tstGo f bits rest = .ok a r) : r.length < rest.length := by
  cases rest with
  | nil => cases h
  | cons t q =>
    simp only [tstGo] at h
    (repeat' split at h) <;> first | (cases h; done) | (injection h with _ h2; subst h2; simp)
theorem tst_len {f : Nat} {rest r : List Tok} {a : Ast} (h : tst f rest = .ok a r) : r.length < rest.length := by
  unfold tst at h
  split at h
  · have := tstGo_len h
    rw [List.length_tail] at this; omega
  · exact tstGo_len h
theorem lst_len {o : List Tok → Res} (ho : ∀ rest a r, o rest = .ok a r → r.length < rest.length) : ∀ (n word : Nat) (acc : List Ast) (rest r : List Tok) (a : Ast), lst o n word acc rest = .ok a r → r.length < rest.length
  | 0, _, _, _, _, _, h => by cases h
  | n + 1, word, acc, rest, r, a, h => by
    unfold lst at h
    split at h
    · cases h
    · rename_i a1 r1 h1
      have hl := ho _ _ _ h1
      split at h
      · injection h with _ h2; subst h2; rw [List.length_tail]; omega
      · split at h
        · have := lst_len ho n _ _ _ _ _ h; rw [List.length_tail] at this; omega
        · split at h
          · have := lst_len ho n _ _ _ _ _ h; rw [List.length_tail] at this; omega
          · cases h
theorem one_len : ∀ (d : Nat) (rest : List Tok) (a : Ast) (r : List Tok), one d rest = .ok a r → r.length < rest.length
  | 0, _, _, _, h => by cases h
  | d + 1, rest, a, r, h => by
    unfold one at h
    split at h
    · rename_i hh; have := headIs_len hh; injection h with _ h2; subst h2; omega
    · split at h
      · rename_i hh
        have := headIs_len hh
        split at h
        · cases h
        · rename_i a1 r1 h1
          have := one_len d _ _ _ h1
          injection h with _ h2; subst h2; omega
      · split at h
        · rename_i hh
          have := headIs_len hh
          have := lst_len (one_len d) _ _ _ _ _ _ h
          omega
        · split at h
          · have := tst_len h; rw [List.length_tail] at this; omega
          · cases h

/-! ### which packets -/
mutual
def meant (v : Nat → Int) (band : Int → Int → Bool) : Ast → Bool
  | .any => true
  | .test f lo hi => decide (lo ≤ v f) && decide (v f ≤ hi)
  | .has f n => band (v f) n
  | .not a => !meant v band a
  | .several o l => if o then meantAny v band l else meantAll v band l
def meantAny (v : Nat → Int) (band : Int → Int → Bool) : List Ast → Bool
  | [] => false
  | a :: l => meant v band a || meantAny v band l
def meantAll (v : Nat → Int) (band : Int → Int → Bool) : List Ast → Bool
  | [] => true
  | a :: l => meant v band a && meantAll v band l
end
end Go.Proofs.YtfjfbiocjloilaaDoor
