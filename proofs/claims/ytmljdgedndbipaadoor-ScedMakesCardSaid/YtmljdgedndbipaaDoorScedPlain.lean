/-
  Plain functions for 10.1: what Check of curves and of flows answers. No program in sight.
-/
import Derived.Test.YtmljdgedndbipaaDoorBase
namespace Go.Proofs.YtmljdgedndbipaaDoor
open Go.RowKit

/-- Check of a curve, behind the length (3.1). -/
def curveGo (xs : List Int) : Nat → Nat → Int
  | 0, _ => 0
  | n + 1, i =>
    if ¬ (0 ≤ gi xs i ∧ gi xs i ≤ 1000000000000) then 2
    else if 0 < i ∧ gi xs i < gi xs (i - 1) then 10
    else curveGo xs n (i + 1)
def curveChk (xs : List Int) : Int := if 1 ≤ xs.length ∧ xs.length ≤ 201 then curveGo xs xs.length 0 else 4
theorem curveGo_bad (xs : List Int) (n i : Nat) (h : ¬ (0 ≤ gi xs i ∧ gi xs i ≤ 1000000000000)) : curveGo xs (n + 1) i = 2 := by
  rw [curveGo, if_pos h]
theorem curveGo_ord (xs : List Int) (n i : Nat) (h : (0 ≤ gi xs i ∧ gi xs i ≤ 1000000000000)) (h2 : 0 < i ∧ gi xs i < gi xs (i - 1)) : curveGo xs (n + 1) i = 10 := by
  rw [curveGo, if_neg (fun g => g h), if_pos h2]
theorem curveGo_on (xs : List Int) (n i : Nat) (h : (0 ≤ gi xs i ∧ gi xs i ≤ 1000000000000)) (h2 : ¬ (0 < i ∧ gi xs i < gi xs (i - 1))) : curveGo xs (n + 1) i = curveGo xs n (i + 1) := by
  rw [curveGo, if_neg (fun g => g h), if_neg h2]
theorem curveGo_cases (xs : List Int) : ∀ n i, curveGo xs n i = 0 ∨ curveGo xs n i = 2 ∨ curveGo xs n i = 10
  | 0, _ => .inl rfl
  | n + 1, i => by
    unfold curveGo
    split
    · exact .inr (.inl rfl)
    · split
      · exact .inr (.inr rfl)
      · exact curveGo_cases xs n (i + 1)

/-- The cells of one flow, tick by tick. -/
def comeGo (xs : List Int) : Nat → Nat → Int → Int
  | 0, _, _ => 0
  | n + 1, i, sum =>
    if ¬ (0 ≤ gi xs i ∧ gi xs i ≤ 100) then 2
    else if 100 < sum + gi xs i then 4
    else comeGo xs n (i + 1) (sum + gi xs i)
theorem comeGo_bad (xs : List Int) (n i : Nat) (s : Int) (h : ¬ (0 ≤ gi xs i ∧ gi xs i ≤ 100)) : comeGo xs (n + 1) i s = 2 := by
  rw [comeGo, if_pos h]
theorem comeGo_many (xs : List Int) (n i : Nat) (s : Int) (h : 0 ≤ gi xs i ∧ gi xs i ≤ 100) (h2 : 100 < s + gi xs i) : comeGo xs (n + 1) i s = 4 := by
  rw [comeGo, if_neg (fun g => g h), if_pos h2]
theorem comeGo_on (xs : List Int) (n i : Nat) (s : Int) (h : 0 ≤ gi xs i ∧ gi xs i ≤ 100) (h2 : ¬ 100 < s + gi xs i) : comeGo xs (n + 1) i s = comeGo xs n (i + 1) (s + gi xs i) := by
  rw [comeGo, if_neg (fun g => g h), if_neg h2]

/-- Flows: what comes, what is promised. -/
abbrev Fl := List (List Int × List Int)
def fC (fs : Fl) (i : Nat) : List Int := (fs.getD i ([], [])).1
def fP (fs : Fl) (i : Nat) : List Int := (fs.getD i ([], [])).2

def flowChk (c p : List Int) (n0 : Nat) : Int :=
  if curveChk p ≠ 0 then curveChk p
  else if c.length ≠ n0 then 3
  else if p.length ≤ c.length then 2
  else comeGo c c.length 0 0
def scedGo (fs : Fl) : Nat → Nat → Int
  | 0, _ => 0
  | n + 1, i => if flowChk (fC fs i) (fP fs i) (fC fs 0).length ≠ 0 then flowChk (fC fs i) (fP fs i) (fC fs 0).length else scedGo fs n (i + 1)
def scedChk (fs : Fl) : Int := if 1 ≤ fs.length ∧ fs.length ≤ 8 then scedGo fs fs.length 0 else 4
theorem scedGo_bad (fs : Fl) (n i : Nat) (r : Int) (h : flowChk (fC fs i) (fP fs i) (fC fs 0).length = r) (h0 : r ≠ 0) : scedGo fs (n + 1) i = r := by
  rw [scedGo, if_pos (by rw [h]; exact h0), h]
theorem scedGo_on (fs : Fl) (n i : Nat) (h : flowChk (fC fs i) (fP fs i) (fC fs 0).length = 0) : scedGo fs (n + 1) i = scedGo fs n (i + 1) := by
  rw [scedGo, if_neg (by rw [h]; simp)]
theorem flow_curve {c p : List Int} {n0 : Nat} {r : Int} (h : curveChk p = r) (h0 : r ≠ 0) : flowChk c p n0 = r := by
  rw [flowChk, if_pos (by rw [h]; exact h0), h]
theorem flow_form {c p : List Int} {n0 : Nat} (h : curveChk p = 0) (h1 : c.length ≠ n0) : flowChk c p n0 = 3 := by
  rw [flowChk, if_neg (by rw [h]; simp), if_pos h1]
theorem flow_range {c p : List Int} {n0 : Nat} (h : curveChk p = 0) (h1 : c.length = n0) (h2 : p.length ≤ c.length) : flowChk c p n0 = 2 := by
  rw [flowChk, if_neg (by rw [h]; simp), if_neg (by simp [h1]), if_pos h2]
theorem flow_come {c p : List Int} {n0 : Nat} (h : curveChk p = 0) (h1 : c.length = n0) (h2 : ¬ p.length ≤ c.length) : flowChk c p n0 = comeGo c c.length 0 0 := by
  rw [flowChk, if_neg (by rw [h]; simp), if_neg (by simp [h1]), if_neg h2]

/-- A slice value that reads as these flows: each two slices of ints. -/
def Flows (w : World) (v : Value) (fs : Fl) : Prop :=
  ∃ a cap, v = .slice a fs.length cap ∧ fs.length ≤ 9223372036854775807 ∧
    (0 < fs.length → ∃ b off, a = some ⟨b, off, none⟩ ∧ ∀ i, i < fs.length → ∃ c p, w.cell? ⟨b, off + i * 2, none⟩ = some c ∧ w.cell? ⟨b, off + i * 2 + 1, none⟩ = some p ∧ Ints w c (fC fs i) ∧ Ints w p (fP fs i))
theorem Flows.below {w w' : World} {v : Value} {fs : Fl} {B : Nat} (h : Flows w v fs) (hb : Below B w w') (hB : w.heap.size ≤ B) : Flows w' v fs := by
  obtain ⟨a, cap, rfl, hl, hc⟩ := h
  refine ⟨a, cap, rfl, hl, fun h0 => ?_⟩
  obtain ⟨b, off, rfl, hcell⟩ := hc h0
  refine ⟨b, off, rfl, fun i hi => ?_⟩
  obtain ⟨c, p, h1, h2, h3, h4⟩ := hcell i hi
  have hlt : b < w.heap.size := World.block_lt_of_cell? w _ h1
  refine ⟨c, p, ?_, ?_, h3.below hb hB, h4.below hb hB⟩
  · rw [hb.cell (p := ⟨b, off + i * 2, none⟩) (by show b < B; omega)]; exact h1
  · rw [hb.cell (p := ⟨b, off + i * 2 + 1, none⟩) (by show b < B; omega)]; exact h2

/-! ### Serve (3.3) -/
/-- What has come ahead of tick s. -/
def pre (cs : List Int) : Nat → Int
  | 0 => 0
  | s + 1 => pre cs s + gi cs s
/-- The least over the first s + 1. -/
def mn (cs bs : List Int) (t : Nat) : Nat → Int
  | 0 => pre cs 0 + gi bs t
  | s + 1 => min (mn cs bs t s) (pre cs (s + 1) + gi bs (t - (s + 1)))
def serveAt (cs bs : List Int) (t : Nat) : Int := mn cs bs t t
def serveL (cs bs : List Int) (n : Nat) : List Int := (List.range n).map (serveAt cs bs)
theorem serveL_succ (cs bs : List Int) (n : Nat) : serveL cs bs (n + 1) = serveL cs bs n ++ [serveAt cs bs n] := by simp [serveL, List.range_succ]
theorem serveL_length (cs bs : List Int) (n : Nat) : (serveL cs bs n).length = n := by simp [serveL]
theorem gi_serveL {cs bs : List Int} {n i : Nat} (h : i < n) : gi (serveL cs bs n) i = serveAt cs bs i := by simp [gi, serveL, h]

/-- Cells that may come; a curve that may be. -/
def Come (cs : List Int) : Prop := ∀ i, i < cs.length → 0 ≤ gi cs i ∧ gi cs i ≤ 1000000
def Curve (bs : List Int) : Prop := 1 ≤ bs.length ∧ bs.length ≤ 201 ∧ ∀ i, i < bs.length → 0 ≤ gi bs i ∧ gi bs i ≤ 1000000000000
theorem curveGo_zero (xs : List Int) : ∀ n i, i + n = xs.length → curveGo xs n i = 0 → ∀ j, i ≤ j → j < xs.length → 0 ≤ gi xs j ∧ gi xs j ≤ 1000000000000
  | 0, i, hn, _, j, h1, h2 => by omega
  | n + 1, i, hn, h, j, h1, h2 => by
    unfold curveGo at h
    split at h
    · omega
    · rename_i hg
      split at h
      · omega
      · rcases Nat.lt_or_ge i j with hlt | hge
        · exact curveGo_zero xs n (i + 1) (by omega) h j (by omega) h2
        · have : i = j := by omega
          subst this
          exact Classical.not_not.1 hg
theorem Curve.of {bs : List Int} (h : curveChk bs = 0) : Curve bs := by
  unfold curveChk at h
  split at h
  · rename_i hl
    exact ⟨hl.1, hl.2, fun i hi => curveGo_zero bs bs.length 0 (by omega) h i (by omega) hi⟩
  · omega
theorem pre_bd {cs : List Int} (h : Come cs) : ∀ s, s ≤ cs.length → 0 ≤ pre cs s ∧ pre cs s ≤ 1000000 * s
  | 0, _ => by simp [pre]
  | s + 1, hs => by
    have ih := pre_bd h s (by omega)
    have := h s (by omega)
    simp only [pre]; omega
theorem mn_nonneg {cs bs : List Int} (h : Come cs) (hb : Curve bs) (t : Nat) (ht : t < bs.length) (htc : t < cs.length) : ∀ s, s ≤ t → 0 ≤ mn cs bs t s ∧ mn cs bs t s ≤ 2000000000000
  | 0, _ => by
    have := hb.2.2 t ht
    simp only [mn, pre]; omega
  | s + 1, hs => by
    have ih := mn_nonneg h hb t ht htc s (by omega)
    have h1 := pre_bd h (s + 1) (by omega)
    have h2 := hb.2.2 (t - (s + 1)) (by omega)
    simp only [mn]; omega
/-- The reference's running best. -/
def refBest (cs bs : List Int) (t : Nat) : Nat → Int
  | 0 => -1
  | s + 1 => mn cs bs t s
theorem refBest_zero (cs bs : List Int) (t : Nat) : refBest cs bs t 1 = pre cs 0 + gi bs (t - 0) := rfl
theorem refBest_less {cs bs : List Int} {t s : Nat} (h : pre cs (s + 1) + gi bs (t - (s + 1)) < refBest cs bs t (s + 1)) : refBest cs bs t (s + 2) = pre cs (s + 1) + gi bs (t - (s + 1)) := by
  simp only [refBest, mn] at *; omega
theorem refBest_keep {cs bs : List Int} {t s : Nat} (h : ¬ pre cs (s + 1) + gi bs (t - (s + 1)) < refBest cs bs t (s + 1)) : refBest cs bs t (s + 2) = refBest cs bs t (s + 1) := by
  simp only [refBest, mn] at *; omega
/-- The program's running best: it begins with the last. -/
def ownBest (cs bs : List Int) (t : Nat) : Nat → Int
  | 0 => pre cs t + gi bs 0
  | s + 1 => min (ownBest cs bs t s) (pre cs s + gi bs (t - s))
theorem ownBest_mn (cs bs : List Int) (t : Nat) : ∀ s, ownBest cs bs t (s + 1) = min (pre cs t + gi bs 0) (mn cs bs t s)
  | 0 => by simp [ownBest, mn]
  | s + 1 => by
    rw [ownBest, ownBest_mn cs bs t s, mn]; omega
theorem ownBest_all (cs bs : List Int) (t : Nat) : ownBest cs bs t t = serveAt cs bs t := by
  cases t with
  | zero => rfl
  | succ t => rw [ownBest_mn, serveAt, mn]; simp; omega

/-- What has come ahead of each tick. -/
def preL (cs : List Int) (n : Nat) : List Int := (List.range n).map (pre cs)
theorem preL_succ (cs : List Int) (n : Nat) : preL cs (n + 1) = preL cs n ++ [pre cs n] := by simp [preL, List.range_succ]
theorem preL_length (cs : List Int) (n : Nat) : (preL cs n).length = n := by simp [preL]
theorem gi_preL {cs : List Int} {n i : Nat} (h : i < n) : gi (preL cs n) i = pre cs i := by simp [gi, preL, h]
theorem ownBest_bd {cs bs : List Int} (h : Come cs) (hb : Curve bs) (t : Nat) (htb : t < bs.length) (htc : t < cs.length) : ∀ s, s ≤ t → 0 ≤ ownBest cs bs t s ∧ ownBest cs bs t s ≤ 2000000000000
  | 0, _ => by
    have := hb.2.2 0 (by omega)
    have := hb.2.1
    have := pre_bd h t (by omega)
    simp only [ownBest]; omega
  | s + 1, hs => by
    have ih := ownBest_bd h hb t htb htc s (by omega)
    have h1 := pre_bd h s (by omega)
    have h2 := hb.2.2 (t - s) (by omega)
    simp only [ownBest]; omega

/-! ### by when a flow's cells are promised (10.2) -/
/-- The first place from i on at which at least k stands; -1: none. -/
def fstGe (l : List Int) (k : Int) : Nat → Nat → Int
  | 0, _ => -1
  | n + 1, i => if k ≤ gi l i then (i : Int) else fstGe l k n (i + 1)
theorem fstGe_yes {l : List Int} {k : Int} {n i : Nat} (h : k ≤ gi l i) : fstGe l k (n + 1) i = i := by rw [fstGe, if_pos h]
theorem fstGe_no {l : List Int} {k : Int} {n i : Nat} (h : ¬ k ≤ gi l i) : fstGe l k (n + 1) i = fstGe l k n (i + 1) := by rw [fstGe, if_neg h]
def dueAt (l : List Int) (j : Nat) : Int := fstGe l ((j : Int) + 1) l.length 0
def dueL (l : List Int) (n : Nat) : List Int := (List.range n).map (dueAt l)
theorem dueL_succ (l : List Int) (n : Nat) : dueL l (n + 1) = dueL l n ++ [dueAt l n] := by simp [dueL, List.range_succ]
theorem dueL_length (l : List Int) (n : Nat) : (dueL l n).length = n := by simp [dueL]
theorem gi_dueL {l : List Int} {n i : Nat} (h : i < n) : gi (dueL l n) i = dueAt l i := by simp [gi, dueL, h]
/-- Of a flow, and so many ticks: what Serve tells; how many cells. -/
def byL (cs bs : List Int) (ticks : Nat) : List Int := serveL (padL cs (ticks + 1)) bs (ticks + 1)
def cellsN (cs : List Int) : Nat := (pre cs cs.length).toNat
def promL (cs bs : List Int) (ticks : Nat) : List Int := dueL (byL cs bs ticks) (cellsN cs)
theorem Come.pad {cs : List Int} (h : Come cs) {n : Nat} : Come (padL cs n) := by
  intro i hi
  rw [gi_padL]
  rcases Nat.lt_or_ge i cs.length with h1 | h1
  · exact h i h1
  · simp [gi, List.getElem?_eq_none h1]

/-! ### rows of pairs -/
def flat2 (c p : Nat → Value) (n : Nat) : List Value := (List.range n).flatMap fun i => [c i, p i]
theorem flat2_succ (c p : Nat → Value) (n : Nat) : flat2 c p (n + 1) = flat2 c p n ++ [c n, p n] := by simp [flat2, List.range_succ, List.flatMap_append]
theorem flat2_length (c p : Nat → Value) (n : Nat) : (flat2 c p n).length = n * 2 := by
  induction n with
  | zero => rfl
  | succ n ih => rw [flat2_succ, List.length_append, ih]; simp; omega
theorem flat2_get (c p : Nat → Value) : ∀ n i, i < n → (flat2 c p n)[i * 2]? = some (c i) ∧ (flat2 c p n)[i * 2 + 1]? = some (p i)
  | n + 1, i, h => by
    rw [flat2_succ]
    have hl := flat2_length c p n
    rcases Nat.lt_or_ge i n with h1 | h1
    · rw [List.getElem?_append_left (by omega), List.getElem?_append_left (by omega)]
      exact flat2_get c p n i h1
    · have : i = n := by omega
      subst this
      rw [List.getElem?_append_right (by omega), List.getElem?_append_right (by omega), hl]
      simp
theorem Flows.own {w : World} {base : Nat} {e : TypeId} {v : Value} {fs : Fl} {c p : Nat → Value} (h : w.ownsRow base e 2 v fs.length (flat2 c p fs.length))
    (hi : ∀ i, i < fs.length → Ints w (c i) (fC fs i) ∧ Ints w (p i) (fP fs i)) : Flows w v fs := by
  obtain ⟨hl, h⟩ := h
  rcases h with ⟨rfl, h0⟩ | ⟨g, cap, cur, rfl, hb, hg, hn, hm, hs, ht⟩
  · exact ⟨none, 0, by rw [h0], by omega, fun h => by omega⟩
  · refine ⟨_, cap, rfl, by unfold maxLen at hm; omega, fun h0 => ⟨g, 0, rfl, fun i hlt => ⟨c i, p i, ?_, ?_, (hi i hlt).1, (hi i hlt).2⟩⟩⟩
    · have h1 := (flat2_get c p fs.length i hlt).1
      rw [← ht, List.getElem?_take, if_pos (by omega)] at h1
      rw [Nat.zero_add, cell_of_row _ g _ _ e (0, 0) hg]
      simpa using h1
    · have h1 := (flat2_get c p fs.length i hlt).2
      rw [← ht, List.getElem?_take, if_pos (by omega)] at h1
      rw [Nat.zero_add, cell_of_row _ g _ _ e (0, 0) hg]
      simpa using h1

/-! ### lists of lists -/
def gl (xss : List (List Int)) (i : Nat) : List Int := xss.getD i []
/-- A slice value that reads as these lists of ints. -/
def Lists (w : World) (v : Value) (xss : List (List Int)) : Prop :=
  ∃ a cap, v = .slice a xss.length cap ∧ xss.length ≤ 9223372036854775807 ∧
    (0 < xss.length → ∃ b off, a = some ⟨b, off, none⟩ ∧ ∀ i, i < xss.length → ∃ c, w.cell? ⟨b, off + i, none⟩ = some c ∧ Ints w c (gl xss i))
theorem Lists.below {w w' : World} {v : Value} {xss : List (List Int)} {B : Nat} (h : Lists w v xss) (hb : Below B w w') (hB : w.heap.size ≤ B) : Lists w' v xss := by
  obtain ⟨a, cap, rfl, hl, hc⟩ := h
  refine ⟨a, cap, rfl, hl, fun h0 => ?_⟩
  obtain ⟨b, off, rfl, hcell⟩ := hc h0
  refine ⟨b, off, rfl, fun i hi => ?_⟩
  obtain ⟨c, h1, h2⟩ := hcell i hi
  have hlt : b < w.heap.size := World.block_lt_of_cell? w _ h1
  exact ⟨c, (hb.cell (p := ⟨b, off + i, none⟩) (by show b < B; omega)).trans h1, h2.below hb hB⟩
theorem Lists.nil (w : World) : Lists w (.slice none 0 0) [] := ⟨none, 0, rfl, by simp, fun h => by simp at h⟩

/-! ### the schedule (10.2) -/
/-- Whose cell goes, and by when it is promised, among the first i flows. C: how many of each have come, S: how many of each have gone, D: by when. -/
def kd (T : Nat) (d : Int) : Int := if d < 0 then (T : Int) + 1 else d
theorem kd_neg {T : Nat} {d : Int} (h : d < 0) : kd T d = (T : Int) + 1 := if_pos h
theorem kd_pos {T : Nat} {d : Int} (h : ¬ d < 0) : kd T d = d := if_neg h
def pk (T : Nat) (D : Nat → List Int) (C : Nat → Int) (S : Nat → Nat) : Nat → Int × Int
  | 0 => (-1, 0)
  | i + 1 =>
    if (S i : Int) = C i then pk T D C S i
    else if (pk T D C S i).1 < 0 ∨ kd T (gi (D i) (S i)) < (pk T D C S i).2 then ((i : Int), kd T (gi (D i) (S i)))
    else pk T D C S i
theorem pk_none {T : Nat} {D : Nat → List Int} {C : Nat → Int} {S : Nat → Nat} {i : Nat} (h : (S i : Int) = C i) : pk T D C S (i + 1) = pk T D C S i := by rw [pk, if_pos h]
theorem pk_take {T : Nat} {D : Nat → List Int} {C : Nat → Int} {S : Nat → Nat} {i : Nat} (h : ¬ (S i : Int) = C i)
    (h2 : (pk T D C S i).1 < 0 ∨ kd T (gi (D i) (S i)) < (pk T D C S i).2) : pk T D C S (i + 1) = ((i : Int), kd T (gi (D i) (S i))) := by rw [pk, if_neg h, if_pos h2]
theorem pk_keep {T : Nat} {D : Nat → List Int} {C : Nat → Int} {S : Nat → Nat} {i : Nat} (h : ¬ (S i : Int) = C i)
    (h2 : ¬ ((pk T D C S i).1 < 0 ∨ kd T (gi (D i) (S i)) < (pk T D C S i).2)) : pk T D C S (i + 1) = pk T D C S i := by rw [pk, if_neg h, if_neg h2]
/-- The one that goes is one of the flows, with a cell left. -/
theorem pk_range (T : Nat) (D : Nat → List Int) (C : Nat → Int) (S : Nat → Nat) : ∀ i, (pk T D C S i).1 = -1 ∨ ∃ j, j < i ∧ (pk T D C S i).1 = (j : Int) ∧ ¬ (S j : Int) = C j
  | 0 => .inl rfl
  | i + 1 => by
    have ih := pk_range T D C S i
    have up : (pk T D C S i).1 = -1 ∨ ∃ j, j < i + 1 ∧ (pk T D C S i).1 = (j : Int) ∧ ¬ (S j : Int) = C j := by
      rcases ih with h | ⟨j, h1, h2⟩
      · exact .inl h
      · exact .inr ⟨j, by omega, h2⟩
    rw [pk]
    split
    · exact up
    · rename_i hs
      split
      · exact .inr ⟨i, by omega, rfl, hs⟩
      · exact up

/-- How many cells of each flow have gone behind so many ticks. F: how many flows. -/
def stS (T : Nat) (D come : Nat → List Int) (F : Nat) : Nat → Nat → Nat
  | 0, _ => 0
  | t + 1, i => stS T D come F t i + if (pk T D (fun j => pre (come j) (t + 1)) (stS T D come F t) F).1 = (i : Int) then 1 else 0
def bestAt (T : Nat) (D come : Nat → List Int) (F t : Nat) : Int := (pk T D (fun j => pre (come j) (t + 1)) (stS T D come F t) F).1
theorem stS_succ (T : Nat) (D come : Nat → List Int) (F t i : Nat) : stS T D come F (t + 1) i = stS T D come F t i + if bestAt T D come F t = (i : Int) then 1 else 0 := rfl
def sentL (T : Nat) (D come : Nat → List Int) (F n : Nat) : List Int := (List.range n).map (bestAt T D come F)
theorem sentL_succ (T : Nat) (D come : Nat → List Int) (F n : Nat) : sentL T D come F (n + 1) = sentL T D come F n ++ [bestAt T D come F n] := by simp [sentL, List.range_succ]
theorem sentL_length (T : Nat) (D come : Nat → List Int) (F n : Nat) : (sentL T D come F n).length = n := by simp [sentL]
/-- When the cells of flow i are through that have gone behind n ticks. -/
def thrL (T : Nat) (D come : Nat → List Int) (F : Nat) : Nat → Nat → List Int
  | 0, _ => []
  | n + 1, i => thrL T D come F n i ++ if bestAt T D come F n = (i : Int) then [(n : Int) + 1] else []
theorem thrL_length (T : Nat) (D come : Nat → List Int) (F i : Nat) : ∀ n, (thrL T D come F n i).length = stS T D come F n i
  | 0 => rfl
  | n + 1 => by
    rw [thrL, stS_succ, List.length_append, thrL_length T D come F i n]
    split <;> simp
theorem thrL_at {T : Nat} {D come : Nat → List Int} {F n i : Nat} (h : bestAt T D come F n = (i : Int)) : thrL T D come F (n + 1) i = thrL T D come F n i ++ [(n : Int) + 1] := by rw [thrL, if_pos h]
theorem thrL_off {T : Nat} {D come : Nat → List Int} {F n i : Nat} (h : ¬ bestAt T D come F n = (i : Int)) : thrL T D come F (n + 1) i = thrL T D come F n i := by rw [thrL, if_neg h, List.append_nil]
theorem pre_mono {cs : List Int} (h : Come cs) : ∀ {a b : Nat}, a ≤ b → pre cs a ≤ pre cs b := by
  intro a b hab
  induction b with
  | zero => simp [show a = 0 by omega]
  | succ b ih =>
    rcases Nat.lt_or_ge b a with h1 | h1
    · rw [show a = b + 1 by omega]; exact Int.le_refl _
    · have := ih h1
      have hg : 0 ≤ gi cs b := by
        rcases Nat.lt_or_ge b cs.length with h2 | h2
        · exact (h b h2).1
        · simp [gi, List.getElem?_eq_none h2]
      simp only [pre]; omega
theorem pre_past {cs : List Int} : ∀ {a : Nat}, cs.length ≤ a → pre cs a = pre cs cs.length := by
  intro a ha
  induction a with
  | zero => rw [show cs.length = 0 by omega]
  | succ a ih =>
    rcases Nat.lt_or_ge a cs.length with h1 | h1
    · rw [show cs.length = a + 1 by omega]
    · rw [pre, ih h1, show gi cs a = 0 from by simp [gi, List.getElem?_eq_none h1]]; omega
/-- No more have gone than have come. -/
theorem stS_le {T : Nat} {D come : Nat → List Int} {F : Nat} (h : ∀ i, i < F → Come (come i)) : ∀ n i, i < F → (stS T D come F n i : Int) ≤ pre (come i) n
  | 0, _, _ => by simp [stS, pre]
  | n + 1, i, hi => by
    have ih := stS_le (T := T) (D := D) h n i hi
    have hm := pre_mono (h i hi) (show n ≤ n + 1 by omega)
    rw [stS_succ]
    split
    · rename_i hb
      rcases pk_range T D (fun j => pre (come j) (n + 1)) (stS T D come F n) F with h1 | ⟨j, h1, h2, h3⟩
      · unfold bestAt at hb; omega
      · unfold bestAt at hb
        have : j = i := by omega
        subst this
        have h3' : ¬ ((stS T D come F n j : Int) = pre (come j) (n + 1)) := h3
        omega
    · omega
theorem stS_bd {T : Nat} {D come : Nat → List Int} {F : Nat} (h : ∀ i, i < F → Come (come i)) (n i : Nat) (hi : i < F) : stS T D come F n i ≤ cellsN (come i) := by
  have h1 := stS_le (T := T) (D := D) h n i hi
  have h2 : pre (come i) n ≤ pre (come i) (come i).length := by
    rcases Nat.lt_or_ge n (come i).length with h3 | h3
    · exact pre_mono (h i hi) (by omega)
    · rw [pre_past h3]; exact Int.le_refl _
  unfold cellsN; omega
/-- Through, all of it. -/
def padM (xs : List Int) (n : Nat) : List Int := xs ++ List.replicate (n - xs.length) (-1)
theorem padM_full {xs : List Int} {n : Nat} (h : n ≤ xs.length) : padM xs n = xs := by simp [padM, show n - xs.length = 0 by omega]
theorem padM_step {xs : List Int} {n : Nat} (h : xs.length < n) : padM (xs ++ [-1]) n = padM xs n := by
  unfold padM
  rw [List.append_assoc, show n - xs.length = (n - (xs ++ [-1]).length) + 1 by simp; omega, List.replicate_succ]; simp

/-! ### what Make asks ahead -/
theorem comeGo_zero (xs : List Int) : ∀ n i s, i + n = xs.length → comeGo xs n i s = 0 → ∀ j, i ≤ j → j < xs.length → 0 ≤ gi xs j ∧ gi xs j ≤ 100
  | 0, i, s, hn, _, j, h1, h2 => by omega
  | n + 1, i, s, hn, h, j, h1, h2 => by
    unfold comeGo at h
    split at h
    · omega
    · rename_i hg
      split at h
      · omega
      · rcases Nat.lt_or_ge i j with hlt | hge
        · exact comeGo_zero xs n (i + 1) _ (by omega) h j (by omega) h2
        · have : i = j := by omega
          subst this
          exact Classical.not_not.1 hg
def FlowOk (c p : List Int) (n0 : Nat) : Prop := curveChk p = 0 ∧ c.length = n0 ∧ c.length < p.length ∧ ∀ j, j < c.length → 0 ≤ gi c j ∧ gi c j ≤ 100
theorem flowChk_zero {c p : List Int} {n0 : Nat} (h : flowChk c p n0 = 0) : FlowOk c p n0 := by
  unfold flowChk at h
  split at h
  · omega
  · rename_i h1
    split at h
    · omega
    · rename_i h2
      split at h
      · omega
      · rename_i h3
        exact ⟨Classical.not_not.1 h1, Classical.not_not.1 h2, by omega, comeGo_zero c c.length 0 0 (by omega) h |> fun g j hj => g j (by omega) hj⟩
theorem scedGo_zero (fs : Fl) : ∀ n i, i + n = fs.length → scedGo fs n i = 0 → ∀ j, i ≤ j → j < fs.length → FlowOk (fC fs j) (fP fs j) (fC fs 0).length
  | 0, i, hn, _, j, h1, h2 => by omega
  | n + 1, i, hn, h, j, h1, h2 => by
    unfold scedGo at h
    split at h
    · omega
    · rename_i hg
      rcases Nat.lt_or_ge i j with hlt | hge
      · exact scedGo_zero fs n (i + 1) (by omega) h j (by omega) h2
      · have : i = j := by omega
        subst this
        exact flowChk_zero (Classical.not_not.1 hg)
theorem scedChk_zero {fs : Fl} (h : scedChk fs = 0) : 1 ≤ fs.length ∧ fs.length ≤ 8 ∧ ∀ j, j < fs.length → FlowOk (fC fs j) (fP fs j) (fC fs 0).length := by
  unfold scedChk at h
  split at h
  · rename_i hl
    exact ⟨hl.1, hl.2, fun j hj => scedGo_zero fs fs.length 0 (by omega) h j (by omega) hj⟩
  · omega
theorem FlowOk.come {c p : List Int} {n0 : Nat} (h : FlowOk c p n0) : Come c := fun i hi => by have := h.2.2.2 i hi; omega
/-- Make's look at ticks, behind Check. -/
def rangeGo (fs : Fl) (x : Int) : Nat → Nat → Int
  | 0, _ => 0
  | n + 1, i => if x < (fC fs i).length ∨ (fP fs i).length ≤ x then 2 else rangeGo fs x n (i + 1)
theorem rangeGo_bad {fs : Fl} {x : Int} {n i : Nat} (h : x < (fC fs i).length ∨ (fP fs i).length ≤ x) : rangeGo fs x (n + 1) i = 2 := if_pos h
theorem rangeGo_on {fs : Fl} {x : Int} {n i : Nat} (h : ¬ (x < (fC fs i).length ∨ (fP fs i).length ≤ x)) : rangeGo fs x (n + 1) i = rangeGo fs x n (i + 1) := if_neg h
def makeChk (fs : Fl) (x : Int) : Int := if scedChk fs ≠ 0 then scedChk fs else rangeGo fs x fs.length 0
theorem makeChk_bad {fs : Fl} {x : Int} (h : scedChk fs ≠ 0) : makeChk fs x = scedChk fs := if_pos h
theorem makeChk_ok {fs : Fl} {x : Int} (h : scedChk fs = 0) : makeChk fs x = rangeGo fs x fs.length 0 := by rw [makeChk, if_neg (by rw [h]; simp)]
theorem rangeGo_zero (fs : Fl) (x : Int) : ∀ n i, i + n = fs.length → rangeGo fs x n i = 0 → ∀ j, i ≤ j → j < fs.length → (fC fs j).length ≤ x ∧ x < (fP fs j).length
  | 0, i, hn, _, j, h1, h2 => by omega
  | n + 1, i, hn, h, j, h1, h2 => by
    unfold rangeGo at h
    split at h
    · omega
    · rename_i hg
      rcases Nat.lt_or_ge i j with hlt | hge
      · exact rangeGo_zero fs x n (i + 1) (by omega) h j (by omega) h2
      · have : i = j := by omega
        subst this
        omega

/-! ### what Make answers -/
def promF (fs : Fl) (T j : Nat) : List Int := promL (fC fs j) (fP fs j) T
def sentOf (fs : Fl) (T : Nat) : List Int := sentL T (promF fs T) (fC fs) fs.length T
def promOf (fs : Fl) (T : Nat) : List (List Int) := (List.range fs.length).map (promF fs T)
def thrOf (fs : Fl) (T : Nat) : List (List Int) := (List.range fs.length).map fun i => padM (thrL T (promF fs T) (fC fs) fs.length T i) (promF fs T i).length
theorem gl_map {f : Nat → List Int} {n i : Nat} (h : i < n) : gl ((List.range n).map f) i = f i := by simp [gl, h]
theorem Lists.rows {W : World} {b n cap : Nat} {t : TypeId} {V : Nat → Value} {f : Nat → List Int} (h : W.rowIs b t n V) (hn : n ≤ 9223372036854775807) (hi : ∀ i, i < n → Ints W (V i) (f i)) :
    Lists W (.slice (some ⟨b, 0, none⟩) n cap) ((List.range n).map f) := by
  refine ⟨_, cap, by simp, by simpa using hn, fun _ => ⟨b, 0, rfl, fun i hlt => ?_⟩⟩
  have hlt' : i < n := by simpa using hlt
  rw [gl_map hlt', Nat.zero_add]
  exact ⟨V i, h.cell hlt', hi i hlt'⟩
end Go.Proofs.YtmljdgedndbipaaDoor
