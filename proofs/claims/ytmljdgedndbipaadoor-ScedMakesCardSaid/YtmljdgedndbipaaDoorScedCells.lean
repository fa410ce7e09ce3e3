/-
  Plain facts on the reference's cells (10.2): all flows' cells in a row, and whose is the soonest among them. No program in sight.
-/
import Derived.Test.YtmljdgedndbipaaDoorScedPlain
namespace Go.Proofs.YtmljdgedndbipaaDoor
open Go.RowKit

/-- At which tick cell k comes. -/
def atGo (cs : List Int) (k : Nat) : Nat → Nat → Nat
  | 0, i => i
  | n + 1, i => if (k : Int) < pre cs (i + 1) then i else atGo cs k n (i + 1)
def atOf (cs : List Int) (k : Nat) : Nat := atGo cs k cs.length 0
theorem atGo_le {cs : List Int} (h : Come cs) {k t : Nat} (ht : (k : Int) < pre cs (t + 1)) : ∀ n i, i ≤ t → t < i + n → atGo cs k n i ≤ t
  | 0, i, h1, h2 => by omega
  | n + 1, i, h1, h2 => by
    unfold atGo
    split
    · exact h1
    · rename_i hk
      rcases Nat.lt_or_ge i t with h3 | h3
      · exact atGo_le h ht n (i + 1) (by omega) (by omega)
      · have : i = t := by omega
        subst this; omega
theorem atGo_gt {cs : List Int} (h : Come cs) {k t : Nat} (ht : ¬ (k : Int) < pre cs (t + 1)) : ∀ n i, (∀ j, j < i → ¬ (k : Int) < pre cs (j + 1)) → t < i + n → t < atGo cs k n i
  | 0, i, _, h2 => by unfold atGo; omega
  | n + 1, i, h1, h2 => by
    unfold atGo
    split
    · rename_i hk
      rcases Nat.lt_or_ge t i with h3 | h3
      · exact h3
      · have := pre_mono h (show i + 1 ≤ t + 1 by omega)
        omega
    · rename_i hk
      refine atGo_gt h ht n (i + 1) (fun j hj => ?_) (by omega)
      rcases Nat.lt_or_ge j i with h3 | h3
      · exact h1 j h3
      · have : j = i := by omega
        subst this; exact hk
/-- It has come by tick t if as many have come. -/
theorem atOf_le {cs : List Int} (h : Come cs) {k t : Nat} (ht : t < cs.length) : atOf cs k ≤ t ↔ (k : Int) < pre cs (t + 1) := by
  constructor
  · intro h1
    rcases Classical.em ((k : Int) < pre cs (t + 1)) with h2 | h2
    · exact h2
    · have := atGo_gt h h2 cs.length 0 (fun j hj => by omega) (by omega)
      unfold atOf at h1; omega
  · intro h1
    exact atGo_le h h1 cs.length 0 (by omega) (by omega)
theorem atOf_eq {cs : List Int} (h : Come cs) {k t : Nat} (ht : t < cs.length) (h1 : pre cs t ≤ (k : Int)) (h2 : (k : Int) < pre cs (t + 1)) : atOf cs k = t := by
  have a := (atOf_le h ht).2 h2
  rcases Nat.eq_zero_or_pos t with h0 | h0
  · omega
  · have b := (atOf_le (k := k) h (show t - 1 < cs.length by omega))
    rw [show t - 1 + 1 = t by omega] at b
    have : ¬ atOf cs k ≤ t - 1 := fun hc => by have := b.1 hc; omega
    omega
/-- behind the last tick all have come -/
theorem atOf_le' {cs : List Int} (h : Come cs) {k t : Nat} (hk : k < cellsN cs) : atOf cs k ≤ t ↔ (k : Int) < pre cs (t + 1) := by
  rcases Nat.lt_or_ge t cs.length with ht | ht
  · exact atOf_le h ht
  · have h1 : pre cs (t + 1) = pre cs cs.length := pre_past (by omega)
    have h2 := (pre_bd h cs.length (Nat.le_refl _)).1
    have h3 : (k : Int) < pre cs cs.length := by unfold cellsN at hk; omega
    constructor
    · intro _; omega
    · intro _
      have hpos : 0 < cs.length := by
        rcases Nat.eq_zero_or_pos cs.length with h0 | h0
        · rw [h0] at h3; simp [pre] at h3; omega
        · exact h0
      have := (atOf_le (k := k) h (show cs.length - 1 < cs.length by omega)).2 (by rw [show cs.length - 1 + 1 = cs.length by omega]; exact h3)
      omega

/-- How many cells the first i flows have. -/
def baseN (come : Nat → List Int) : Nat → Nat
  | 0 => 0
  | i + 1 => baseN come i + cellsN (come i)
theorem baseN_mono (come : Nat → List Int) {i j : Nat} (h : i ≤ j) : baseN come i ≤ baseN come j := by
  induction j with
  | zero => simp [show i = 0 by omega]
  | succ j ih =>
    rcases Nat.lt_or_ge j i with h1 | h1
    · rw [show i = j + 1 by omega]; exact Nat.le_refl _
    · have := ih h1; simp only [baseN]; omega
/-- A place in the row is one cell of one flow. -/
theorem place_of (come : Nat → List Int) : ∀ F c, c < baseN come F → ∃ i k, i < F ∧ k < cellsN (come i) ∧ c = baseN come i + k
  | F + 1, c, h => by
    rcases Nat.lt_or_ge c (baseN come F) with h1 | h1
    · obtain ⟨i, k, h2, h3, h4⟩ := place_of come F c h1
      exact ⟨i, k, by omega, h3, h4⟩
    · exact ⟨F, c - baseN come F, by omega, by simp only [baseN] at h; omega, by omega⟩
theorem place_inj {come : Nat → List Int} {i j k l : Nat} (hk : k < cellsN (come i)) (hl : l < cellsN (come j)) (h : baseN come i + k = baseN come j + l) : i = j ∧ k = l := by
  rcases Nat.lt_trichotomy i j with h1 | h1 | h1
  · have := baseN_mono come (show i + 1 ≤ j by omega)
    simp only [baseN] at this; omega
  · subst h1; exact ⟨rfl, by omega⟩
  · have := baseN_mono come (show j + 1 ≤ i by omega)
    simp only [baseN] at this; omega
/-- Whose the cell at place c is; which of its flow's. -/
def flAt (come : Nat → List Int) : Nat → Nat → Nat
  | 0, _ => 0
  | F + 1, c => if baseN come F ≤ c then F else flAt come F c
theorem flAt_eq {come : Nat → List Int} {i k : Nat} (hk : k < cellsN (come i)) : ∀ F, i < F → flAt come F (baseN come i + k) = i
  | F + 1, hi => by
    unfold flAt
    rcases Nat.lt_or_ge i F with h1 | h1
    · have h2 := baseN_mono come (show i + 1 ≤ F by omega)
      simp only [baseN] at h2
      rw [if_neg (by omega)]
      exact flAt_eq hk F h1
    · have : i = F := by omega
      subst this; rw [if_pos (by omega)]
def kAt (come : Nat → List Int) (F c : Nat) : Nat := c - baseN come (flAt come F c)
theorem kAt_eq {come : Nat → List Int} {F i k : Nat} (hi : i < F) (hk : k < cellsN (come i)) : kAt come F (baseN come i + k) = k := by
  rw [kAt, flAt_eq hk F hi]; omega

/-! ### the soonest of the first cells -/
section
variable (T : Nat) (D come : Nat → List Int) (F t : Nat)
/-- When the cell at place c was through, behind t ticks; -1: not yet. -/
def thrV (c : Nat) : Int := if kAt come F c < stS T D come F t (flAt come F c) then gi (thrL T D come F t (flAt come F c)) (kAt come F c) else -1
def dueV (c : Nat) : Int := gi (D (flAt come F c)) (kAt come F c)
def atV (c : Nat) : Nat := atOf (come (flAt come F c)) (kAt come F c)
/-- Is it the first of its flow that is left, and has come? The reference asks all cells ahead. -/
def frTo (c m : Nat) : Prop := (atV come F c ≤ t ∧ thrV T D come F t c < 0) ∧ ∀ o, o < m → flAt come F o ≠ flAt come F c ∨ 0 ≤ thrV T D come F t o
open Classical in
noncomputable def rb : Nat → Int
  | 0 => -1
  | c + 1 => if frTo T D come F t c c ∧ (rb c < 0 ∨ kd T (dueV D come F c) < kd T (dueV D come F (rb c).toNat)) then (c : Int) else rb c
end
section
variable {T : Nat} {D come : Nat → List Int} {F t : Nat}
noncomputable def frB (T : Nat) (D come : Nat → List Int) (F t c m : Nat) : Bool := @decide (frTo T D come F t c m) (Classical.propDecidable _)
theorem frB_iff {c m : Nat} : frB T D come F t c m = true ↔ frTo T D come F t c m := by unfold frB; exact @decide_eq_true_iff _ (Classical.propDecidable _)
theorem frB_zero {c : Nat} : frB T D come F t c 0 = (decide (atV come F c ≤ t) && decide (thrV T D come F t c < 0)) := by
  rw [Bool.eq_iff_iff, frB_iff]; unfold frTo; simp
theorem frB_no {c m : Nat} (h : frB T D come F t c m = false) : frB T D come F t c (m + 1) = false := by
  rw [Bool.eq_false_iff] at h ⊢
  intro h2
  rw [frB_iff] at h2
  exact h (frB_iff.2 ⟨h2.1, fun o ho => h2.2 o (by omega)⟩)
theorem frB_on {c m : Nat} (h : frB T D come F t c m = true) (h2 : flAt come F m ≠ flAt come F c ∨ 0 ≤ thrV T D come F t m) : frB T D come F t c (m + 1) = true := by
  rw [frB_iff] at h ⊢
  refine ⟨h.1, fun o ho => ?_⟩
  rcases Nat.lt_or_ge o m with h3 | h3
  · exact h.2 o h3
  · rw [show o = m by omega]; exact h2
theorem frB_off {c m : Nat} (h1 : flAt come F m = flAt come F c) (h2 : ¬ 0 ≤ thrV T D come F t m) : frB T D come F t c (m + 1) = false := by
  rw [Bool.eq_false_iff]
  intro h
  rw [frB_iff] at h
  rcases h.2 m (by omega) with h3 | h3
  · exact h3 h1
  · exact h2 h3
theorem rb_take {c : Nat} (h : frTo T D come F t c c) (h2 : rb T D come F t c < 0 ∨ kd T (dueV D come F c) < kd T (dueV D come F (rb T D come F t c).toNat)) : rb T D come F t (c + 1) = c := by
  rw [rb, if_pos ⟨h, h2⟩]
theorem rb_keep {c : Nat} (h : ¬ (frTo T D come F t c c ∧ (rb T D come F t c < 0 ∨ kd T (dueV D come F c) < kd T (dueV D come F (rb T D come F t c).toNat)))) : rb T D come F t (c + 1) = rb T D come F t c := by
  rw [rb, if_neg h]
theorem rb_range : ∀ m, rb T D come F t m = -1 ∨ ∃ c : Nat, c < m ∧ rb T D come F t m = c
  | 0 => .inl rfl
  | m + 1 => by
    rw [rb]
    split
    · exact .inr ⟨m, by omega, rfl⟩
    · rcases rb_range m with h | ⟨c, h1, h2⟩
      · exact .inl h
      · exact .inr ⟨c, by omega, h2⟩
theorem thrL_pos (i : Nat) : ∀ n k, k < (thrL T D come F n i).length → 1 ≤ gi (thrL T D come F n i) k ∧ gi (thrL T D come F n i) k ≤ n
  | 0, k, h => by simp [thrL] at h
  | n + 1, k, h => by
    rcases Classical.em (bestAt T D come F n = (i : Int)) with hb | hb
    · rw [thrL_at hb] at h ⊢
      rcases Nat.lt_or_ge k (thrL T D come F n i).length with h1 | h1
      · rw [gi_append_left h1]; have := thrL_pos i n k h1; omega
      · have hk : k = (thrL T D come F n i).length + 0 := by simp at h; omega
        rw [hk, gi_append_at]; simp [gi]; omega
    · rw [thrL_off hb] at h ⊢; have := thrL_pos i n k h; omega
theorem thrV_place {i k : Nat} (hi : i < F) (hk : k < cellsN (come i)) : thrV T D come F t (baseN come i + k) = if k < stS T D come F t i then gi (thrL T D come F t i) k else -1 := by
  rw [thrV, flAt_eq hk F hi, kAt_eq hi hk]
theorem dueV_place {i k : Nat} (hi : i < F) (hk : k < cellsN (come i)) : dueV D come F (baseN come i + k) = gi (D i) k := by
  rw [dueV, flAt_eq hk F hi, kAt_eq hi hk]
theorem atV_place {i k : Nat} (hi : i < F) (hk : k < cellsN (come i)) : atV come F (baseN come i + k) = atOf (come i) k := by
  rw [atV, flAt_eq hk F hi, kAt_eq hi hk]
theorem thrV_neg {i k : Nat} (hi : i < F) (hk : k < cellsN (come i)) : thrV T D come F t (baseN come i + k) < 0 ↔ stS T D come F t i ≤ k := by
  rw [thrV_place hi hk]
  split
  · rename_i h
    have := thrL_pos (T := T) (D := D) (come := come) (F := F) i t k (by rw [thrL_length]; exact h)
    omega
  · omega
/-- It is the first that is left, and has come. -/
theorem frTo_place (hc : ∀ i, i < F → Come (come i)) {i k : Nat} (hi : i < F) (hk : k < cellsN (come i)) :
    frTo T D come F t (baseN come i + k) (baseN come i + k) ↔ k = stS T D come F t i ∧ (stS T D come F t i : Int) < pre (come i) (t + 1) := by
  unfold frTo
  rw [atV_place hi hk, thrV_neg hi hk, atOf_le' (hc i hi) hk, flAt_eq hk F hi]
  constructor
  · rintro ⟨⟨h1, h2⟩, h3⟩
    have h4 : k ≤ stS T D come F t i := by
      rcases Nat.lt_or_ge (stS T D come F t i) k with h5 | h5
      · have hk' : stS T D come F t i < cellsN (come i) := by omega
        rcases h3 (baseN come i + stS T D come F t i) (by omega) with h6 | h6
        · exact absurd (flAt_eq hk' F hi) h6
        · have := (thrV_neg (T := T) (D := D) (t := t) hi hk').2 (Nat.le_refl _); omega
      · exact h5
    have : k = stS T D come F t i := by omega
    exact ⟨this, by omega⟩
  · rintro ⟨h1, h2⟩
    refine ⟨⟨by omega, by omega⟩, fun o ho => ?_⟩
    have hM : o < baseN come F := by
      have := baseN_mono come (show i + 1 ≤ F by omega)
      simp only [baseN] at this; omega
    obtain ⟨j, l, hj, hl, rfl⟩ := place_of come F o hM
    rw [flAt_eq hl F hj]
    rcases Classical.em (j = i) with e | e
    · subst e
      right
      have := (thrV_neg (T := T) (D := D) (t := t) hi hl)
      omega
    · exact .inl e

/-- What the row's soonest is to the flows' soonest. -/
def RbPk (T : Nat) (D come : Nat → List Int) (F t : Nat) (r : Int) (p : Int × Int) : Prop :=
  (r = -1 ∧ p.1 = -1) ∨ ∃ j, j < F ∧ p.1 = (j : Int) ∧ stS T D come F t j < cellsN (come j) ∧ r = ((baseN come j + stS T D come F t j : Nat) : Int) ∧ p.2 = kd T (gi (D j) (stS T D come F t j))
theorem RbPk.key {r : Int} {p : Int × Int} (h : RbPk T D come F t r p) (h0 : ¬ r < 0) : p.2 = kd T (dueV D come F r.toNat) := by
  rcases h with ⟨h1, _⟩ | ⟨j, hj, h1, h2, h3, h4⟩
  · omega
  · rw [h4, h3, Int.toNat_natCast, dueV_place hj h2]
theorem RbPk.neg {r : Int} {p : Int × Int} (h : RbPk T D come F t r p) : p.1 < 0 ↔ r < 0 := by
  rcases h with ⟨h1, h2⟩ | ⟨j, hj, h1, h2, h3, h4⟩ <;> omega
theorem rb_flow (hc : ∀ i, i < F → Come (come i)) {i : Nat} (hi : i < F) : ∀ k, k ≤ cellsN (come i) →
    rb T D come F t (baseN come i + k) = if stS T D come F t i < k ∧ (stS T D come F t i : Int) < pre (come i) (t + 1) ∧
      (rb T D come F t (baseN come i) < 0 ∨ kd T (gi (D i) (stS T D come F t i)) < kd T (dueV D come F (rb T D come F t (baseN come i)).toNat)) then ((baseN come i + stS T D come F t i : Nat) : Int) else rb T D come F t (baseN come i)
  | 0, _ => by rw [if_neg (by omega)]; rfl
  | k + 1, hk => by
    have ih := rb_flow hc hi k (by omega)
    have hfr := frTo_place (T := T) (D := D) (t := t) hc hi (show k < cellsN (come i) by omega)
    have hdu := dueV_place (D := D) hi (show k < cellsN (come i) by omega)
    rw [← Nat.add_assoc]
    rcases Nat.lt_trichotomy k (stS T D come F t i) with h1 | h1 | h1
    · rw [if_neg (by omega)] at ih ⊢
      rw [rb_keep (fun h => by have := hfr.1 h.1; omega), ih]
    · rw [if_neg (by omega)] at ih
      rcases Classical.em ((stS T D come F t i : Int) < pre (come i) (t + 1) ∧ (rb T D come F t (baseN come i) < 0 ∨ kd T (gi (D i) (stS T D come F t i)) < kd T (dueV D come F (rb T D come F t (baseN come i)).toNat))) with h2 | h2
      · rw [if_pos ⟨by omega, h2⟩, rb_take (hfr.2 ⟨h1, h2.1⟩) (by rw [ih, hdu, h1]; exact h2.2), h1]
      · rw [if_neg (fun h => h2 h.2), rb_keep (fun h => h2 ⟨(hfr.1 h.1).2, by have h3 := h.2; rw [ih, hdu, h1] at h3; exact h3⟩), ih]
    · rw [rb_keep (fun h => by have := hfr.1 h.1; omega), ih]
      rcases Classical.em ((stS T D come F t i : Int) < pre (come i) (t + 1) ∧ (rb T D come F t (baseN come i) < 0 ∨ kd T (gi (D i) (stS T D come F t i)) < kd T (dueV D come F (rb T D come F t (baseN come i)).toNat))) with h2 | h2
      · rw [if_pos ⟨h1, h2⟩, if_pos ⟨by omega, h2⟩]
      · rw [if_neg (fun h => h2 h.2), if_neg (fun h => h2 h.2)]
theorem rb_pk (hc : ∀ i, i < F → Come (come i)) : ∀ i, i ≤ F → RbPk T D come F t (rb T D come F t (baseN come i)) (pk T D (fun j => pre (come j) (t + 1)) (stS T D come F t) i)
  | 0, _ => .inl ⟨rfl, rfl⟩
  | i + 1, hi => by
    have ih := rb_pk hc i (by omega)
    have hf := rb_flow (T := T) (D := D) (t := t) hc (show i < F by omega) (cellsN (come i)) (Nat.le_refl _)
    have hb : baseN come (i + 1) = baseN come i + cellsN (come i) := rfl
    rw [hb, hf]
    have hle := stS_le (T := T) (D := D) hc t i (by omega)
    have hmo := pre_mono (hc i (by omega)) (show t ≤ t + 1 by omega)
    have hcap : pre (come i) (t + 1) ≤ (cellsN (come i) : Int) := by
      have h0 := pre_bd (hc i (by omega)) (come i).length (Nat.le_refl _)
      rcases Nat.lt_or_ge (t + 1) (come i).length with h3 | h3
      · have := pre_mono (hc i (by omega)) (show t + 1 ≤ (come i).length by omega)
        unfold cellsN; omega
      · rw [pre_past h3]; unfold cellsN; omega
    rcases Classical.em ((stS T D come F t i : Int) = pre (come i) (t + 1)) with h1 | h1
    · rw [pk_none h1, if_neg (by omega)]; exact ih
    · rcases Classical.em (rb T D come F t (baseN come i) < 0 ∨ kd T (gi (D i) (stS T D come F t i)) < kd T (dueV D come F (rb T D come F t (baseN come i)).toNat)) with h2 | h2
      · rw [if_pos ⟨by omega, by omega, h2⟩, pk_take h1 (by
          rcases Classical.em (rb T D come F t (baseN come i) < 0) with h3 | h3
          · exact .inl (ih.neg.2 h3)
          · rw [ih.key h3]
            rcases h2 with h2 | h2
            · exact absurd h2 h3
            · exact .inr h2)]
        exact .inr ⟨i, by omega, rfl, by omega, rfl, rfl⟩
      · rw [if_neg (fun h => h2 h.2.2), pk_keep h1 (fun h => h2 (by
          rcases Classical.em (rb T D come F t (baseN come i) < 0) with h3 | h3
          · exact .inl h3
          · rw [ih.key h3] at h
            rcases h with h | h
            · exact absurd (ih.neg.1 h) h3
            · exact .inr h))]
        exact ih
/-- The row's soonest, all cells asked: nobody's, or the flow's that the program takes. -/
theorem rb_all (hc : ∀ i, i < F → Come (come i)) : (rb T D come F t (baseN come F) = -1 ∧ bestAt T D come F t = -1) ∨
    ∃ j, j < F ∧ bestAt T D come F t = (j : Int) ∧ stS T D come F t j < cellsN (come j) ∧ rb T D come F t (baseN come F) = ((baseN come j + stS T D come F t j : Nat) : Int) := by
  rcases rb_pk hc F (Nat.le_refl _) with h | ⟨j, h1, h2, h3, h4, _⟩
  · exact .inl h
  · exact .inr ⟨j, h1, h2, h3, h4⟩
theorem stS_off {i : Nat} (h : ¬ bestAt T D come F t = (i : Int)) : stS T D come F (t + 1) i = stS T D come F t i := by rw [stS_succ, if_neg h]; rfl
theorem stS_on {i : Nat} (h : bestAt T D come F t = (i : Int)) : stS T D come F (t + 1) i = stS T D come F t i + 1 := by rw [stS_succ, if_pos h]
/-- what a tick turns -/
theorem thrV_none (h : bestAt T D come F t = -1) (c : Nat) : thrV T D come F (t + 1) c = thrV T D come F t c := by
  have h1 : ¬ bestAt T D come F t = ((flAt come F c : Nat) : Int) := by rw [h]; omega
  unfold thrV
  rw [stS_off h1, thrL_off h1]
theorem thrV_one {j : Nat} (hj : j < F) (h : bestAt T D come F t = (j : Int)) (hS : stS T D come F t j < cellsN (come j)) {c : Nat} (hcM : c < baseN come F) :
    thrV T D come F (t + 1) c = if c = baseN come j + stS T D come F t j then (t : Int) + 1 else thrV T D come F t c := by
  obtain ⟨i, k, hi, hk, rfl⟩ := place_of come F c hcM
  rw [thrV_place hi hk, thrV_place hi hk]
  rcases Classical.em (i = j) with e | e
  · subst e
    rw [stS_on h, thrL_at h]
    have hl := thrL_length T D come F i t
    rcases Nat.lt_trichotomy k (stS T D come F t i) with h1 | h1 | h1
    · rw [if_pos (by omega), if_neg (by omega), if_pos h1, gi_append_left (by omega)]
    · rw [if_pos (by omega), if_pos (by omega)]
      have hk0 : k = (thrL T D come F t i).length + 0 := by omega
      rw [hk0, gi_append_at]; simp [gi]
    · rw [if_neg (by omega), if_neg (by omega), if_neg (by omega)]
  · have h1 : ¬ bestAt T D come F t = (i : Int) := by rw [h]; omega
    have h2 : ¬ baseN come i + k = baseN come j + stS T D come F t j := fun h2 => e (place_inj hk hS h2).1
    rw [stS_off h1, thrL_off h1, if_neg h2]
end
end Go.Proofs.YtmljdgedndbipaaDoor
