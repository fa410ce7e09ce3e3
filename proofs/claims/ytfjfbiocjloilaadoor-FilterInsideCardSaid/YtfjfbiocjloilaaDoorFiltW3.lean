/-
  What is proved here: what lies in memory for a filter that the document's parser has read; all, not, and a filter too deep (11.2).
-/
import Derived.Test.YtfjfbiocjloilaaDoorFiltW2
namespace Go.Proofs.YtfjfbiocjloilaaDoor
open Go.RowKit Go.Sort

/-- What the walks find in the variables; blocks below lo are older than the calls. -/
structure EnvF (lo : Nat) (W : World) : Prop where
  n : EnvN W
  glo : 9 ≤ lo
  hi : lo ≤ W.heap.size
  fine0 : W.cell? ⟨1, 0, none⟩ = some (.int .i64 0)
  fine1 : W.cell? ⟨1, 1, none⟩ = some (.int .i64 (-1))
  maxl : ∃ m, W.cell? ⟨3, 0, none⟩ = some (.int .i64 m)
  rf : ∃ b o c, W.cell? ⟨0, 0, none⟩ = some (.slice (some ⟨b, o, none⟩) 5 c) ∧ b < lo ∧ ∀ i, i < 5 → W.cell? ⟨b, o + i, none⟩ = some (.string (kField i))
  pf : ∀ i, i < 5 → W.cell? ⟨2, i, none⟩ = some (.string (kField i))
theorem below_cell {lo : Nat} {W W' : World} {a : Addr} {v : Value} (hb : Below lo W W') (h : W.cell? a = some v) (hl : a.block < lo) : W'.cell? a = some v :=
  (World.cell?_of_block (hb.block a.block hl)).trans h
theorem EnvF.below {lo : Nat} {W W' : World} (h : EnvF lo W) (hb : Below lo W W') : EnvF lo W' := by
  have hg := h.glo
  obtain ⟨m, hm⟩ := h.maxl
  obtain ⟨b, o, c, h1, h2, h3⟩ := h.rf
  exact ⟨h.n.below hb hg, hg, Nat.le_trans h.hi hb.size, below_cell hb h.fine0 (by simp; omega), below_cell hb h.fine1 (by simp; omega), ⟨m, below_cell hb hm (by simp; omega)⟩,
    ⟨b, o, c, below_cell hb h1 (by simp; omega), h2, fun i hi => below_cell hb (h3 i hi) h2⟩, fun i hi => below_cell hb (h.pf i hi) (by simp; omega)⟩
theorem below_of_grown {lo P : Nat} {W W' : World} (hg : W.grownBy W' (some P)) (hP : lo ≤ P) (hl : lo ≤ W.heap.size) : Below lo W W' :=
  ⟨hg.os, hg.tape, hg.output, hg.size, fun k hk => hg.block k (by omega) (by simp; omega)⟩
theorem EnvF.grown {lo P : Nat} {W W' : World} (h : EnvF lo W) (hg : W.grownBy W' (some P)) (hP : lo ≤ P) : EnvF lo W' := h.below (below_of_grown hg hP h.hi)

def kTest : ByteArray := ⟨#[116, 101, 115, 116]⟩
abbrev fltObj (k : ByteArray) (f : Nat) (lo hi : Int) (kids : Value) : Obj := .cells #[.string k, .int .i64 f, .int .i64 lo, .int .i64 hi, kids] 60 (0, 0)
def LenOk (n : Nat) : Prop := 0 < n ∧ n ≤ 200000
def NumOk (n : Int) : Prop := 0 ≤ n ∧ n ≤ 1000000000
mutual
/-- The document's filter, in block B; all its blocks are in S. -/
def RAst (S : Nat → Prop) (W : World) (B : Nat) : Ast → Prop
  | .any => S B ∧ W.heap[B]? = some (fltObj kAny 0 0 0 (.slice none 0 0))
  | .test f lo hi => S B ∧ f < 5 ∧ NumOk lo ∧ NumOk hi ∧ W.heap[B]? = some (fltObj kTest f lo hi (.slice none 0 0))
  | .has f lo => S B ∧ f < 5 ∧ NumOk lo ∧ W.heap[B]? = some (fltObj kHas f lo lo (.slice none 0 0))
  | .not a => S B ∧ ∃ g c, W.heap[B]? = some (fltObj kNot 0 0 0 (.slice (some ⟨g, 0, none⟩) 1 c)) ∧ S g ∧ ∃ k, W.cell? ⟨g, 0, none⟩ = some (ptrP k) ∧ RAst S W k a
  | .several o l => S B ∧ LenOk l.length ∧ ∃ g c, W.heap[B]? = some (fltObj (if o then kOr else kAnd) 0 0 0 (.slice (some ⟨g, 0, none⟩) l.length c)) ∧ S g ∧ RKids S W g 0 l
def RKids (S : Nat → Prop) (W : World) (g i : Nat) : List Ast → Prop
  | [] => True
  | a :: l => (∃ k, W.cell? ⟨g, i, none⟩ = some (ptrP k) ∧ RAst S W k a) ∧ RKids S W g (i + 1) l
end
mutual
theorem RAst.kept {S S' : Nat → Prop} {W W' : World} (hk : ∀ b, S b → b < W.heap.size → S' b ∧ W'.heap[b]? = W.heap[b]?) {B : Nat} : ∀ {a : Ast}, RAst S W B a → RAst S' W' B a
  | .any, h => by
    unfold RAst at h ⊢
    have hl := (Array.getElem?_eq_some_iff.1 h.2).1
    exact ⟨(hk B h.1 hl).1, (hk B h.1 hl).2.trans h.2⟩
  | .test f lo hi, h => by
    unfold RAst at h ⊢
    obtain ⟨h1, h2, h3, h4, h5⟩ := h
    have hl := (Array.getElem?_eq_some_iff.1 h5).1
    exact ⟨(hk B h1 hl).1, h2, h3, h4, (hk B h1 hl).2.trans h5⟩
  | .has f lo, h => by
    unfold RAst at h ⊢
    obtain ⟨h1, h2, h3, h5⟩ := h
    have hl := (Array.getElem?_eq_some_iff.1 h5).1
    exact ⟨(hk B h1 hl).1, h2, h3, (hk B h1 hl).2.trans h5⟩
  | .not a, h => by
    unfold RAst at h ⊢
    obtain ⟨h1, g, c, h2, h3, k, h4, h5⟩ := h
    have hl := (Array.getElem?_eq_some_iff.1 h2).1
    have hgl : g < W.heap.size := World.block_lt_of_cell? W _ h4
    exact ⟨(hk B h1 hl).1, g, c, (hk B h1 hl).2.trans h2, (hk g h3 hgl).1, k, (World.cell?_of_block (hk g h3 hgl).2).trans h4, RAst.kept hk h5⟩
  | .several o l, h => by
    unfold RAst at h ⊢
    obtain ⟨h1, h0, g, c, h2, h3, h4⟩ := h
    have hl := (Array.getElem?_eq_some_iff.1 h2).1
    have hgl : g < W.heap.size := by
      cases l with
      | nil => exact absurd h0.1 (by simp)
      | cons a l =>
        have h5 := h4; unfold RKids at h5; obtain ⟨⟨k, h6, _⟩, _⟩ := h5
        exact World.block_lt_of_cell? W _ h6
    exact ⟨(hk B h1 hl).1, h0, g, c, (hk B h1 hl).2.trans h2, (hk g h3 hgl).1, RKids.kept hk (hk g h3 hgl).2 h4⟩
theorem RKids.kept {S S' : Nat → Prop} {W W' : World} (hk : ∀ b, S b → b < W.heap.size → S' b ∧ W'.heap[b]? = W.heap[b]?) {g : Nat} (hg : W'.heap[g]? = W.heap[g]?) : ∀ {i : Nat} {l : List Ast}, RKids S W g i l → RKids S' W' g i l
  | _, [], _ => by unfold RKids; trivial
  | i, a :: l, h => by
    unfold RKids at h ⊢
    obtain ⟨⟨k, h1, h2⟩, h3⟩ := h
    exact ⟨⟨k, (World.cell?_of_block hg).trans h1, RAst.kept hk h2⟩, RKids.kept hk hg h3⟩
end

theorem tstGo_err {f : Nat} {b : Bool} {l : List Tok} {e : Int} {r : List Tok} (h : tstGo f b l = .err e r) : e ≠ 0 := by
  cases l with
  | nil => simp only [tstGo] at h; injection h with h1 _; omega
  | cons t q =>
    simp only [tstGo] at h
    (repeat' split at h) <;> first | (cases h; done) | (injection h with h1 _; omega)
theorem lst_err {o : List Tok → Res} (ho : ∀ l e r, o l = .err e r → e ≠ 0) : ∀ (n word : Nat) (acc : List Ast) (l : List Tok) (e : Int) (r : List Tok), lst o n word acc l = .err e r → e ≠ 0
  | 0, _, _, _, e, _, h => by unfold lst at h; injection h with h1 _; omega
  | n + 1, word, acc, l, e, r, h => by
    unfold lst at h
    split at h
    · rename_i h1
      injection h with h2 h3
      subst h2
      exact ho _ _ _ h1
    · split at h
      · cases h
      · split at h
        · exact lst_err ho n _ _ _ _ _ h
        · split at h
          · exact lst_err ho n _ _ _ _ _ h
          · injection h with h1 _; omega
theorem one_err : ∀ (d : Nat) (l : List Tok) (e : Int) (r : List Tok), one d l = .err e r → e ≠ 0
  | 0, _, e, _, h => by unfold one at h; injection h with h1 _; omega
  | d + 1, l, e, r, h => by
    unfold one at h
    split at h
    · cases h
    · split at h
      · split at h
        · rename_i h1
          injection h with h2 h3
          subst h2
          exact one_err d _ _ _ h1
        · cases h
      · split at h
        · exact lst_err (one_err d) _ _ _ _ _ _ h
        · split at h
          · unfold tst at h
            split at h <;> exact tstGo_err h
          · injection h with h1 _; omega

theorem is_yes {w : World} {P T : Nat} {v : Value} {l : List Tok} {en : Nat} (h : PS w P T v l en 0 (-1)) {s : ByteArray} (hs : headIs l s = true) :
    Calls Tryd.prog 17 #[ptrP P, .string s] w fun r w' => r = .returned (.bool true) ∧ w.grownBy w' (some P) ∧ ∃ v', PS w' P T v' l.tail en 0 (-1) :=
  (is_any h s).mono fun r w' ⟨hg, v', hr, hp⟩ => by
    rw [hs] at hr hp
    exact ⟨hr, hg, v', hp⟩
theorem is_no {w : World} {P T : Nat} {v : Value} {l : List Tok} {en : Nat} (h : PS w P T v l en 0 (-1)) {s : ByteArray} (hs : headIs l s = false) :
    Calls Tryd.prog 17 #[ptrP P, .string s] w fun r w' => r = .returned (.bool false) ∧ w.grownBy w' (some P) ∧ ∃ v', PS w' P T v' l en 0 (-1) :=
  (is_any h s).mono fun r w' ⟨hg, v', hr, hp⟩ => by
    rw [hs] at hr hp
    exact ⟨hr, hg, v', hp⟩
theorem is_bad {w : World} {P T : Nat} {v : Value} {l : List Tok} {en : Nat} {fe fp : Int} (h : PS w P T v l en fe fp) {s : ByteArray} (hs : fe ≠ 0) :
    Calls Tryd.prog 17 #[ptrP P, .string s] w fun r w' => r = .returned (.bool false) ∧ w.grownBy w' (some P) ∧ ∃ v', PS w' P T v' l en fe fp :=
  (is_any h s).mono fun r w' ⟨hg, v', hr, hp⟩ => by
    have hd : decide (fe = 0) = false := by simpa using hs
    rw [hd] at hr hp
    exact ⟨hr, hg, v', hp⟩

theorem cell_new (w : World) (cs : Array Value) (t : TypeId) (i : Nat) : (w.alloc (.cells cs t)).cell? ⟨w.heap.size, i, none⟩ = cs[i]? := by
  have h := heap_alloc_new w (.cells cs t)
  unfold World.cell?
  simp only [h]
  rfl
def RFilterP (w : World) (P T en d : Nat) (l : List Tok) (r : Ending) (w' : World) : Prop :=
  ∃ p, r = .returned (.pointer p) ∧ w.grownBy w' (some P) ∧ match one d l with
    | .err e rest => ∃ v' l', PS w' P T v' l' en e (hereOf rest en)
    | .ok a rest => ∃ v' B, p = some ⟨B, 0, none⟩ ∧ PS w' P T v' rest en 0 (-1) ∧ RAst (fun b => w.heap.size ≤ b) w' B a
def RFilters (P T en d lo : Nat) : Prop := ∀ (w : World) (v : Value) (l : List Tok), PS w P T v l en 0 (-1) → EnvF lo w → lo ≤ P → T ≤ w.heap.size → Calls Tryd.prog 11 #[ptrP P, .int .i64 (20 - d : Int)] w (RFilterP w P T en d l)

set_option maxHeartbeats 2000000 in
set_option maxRecDepth 100000 in
theorem rfilter_deep (P T en lo : Nat) : RFilters P T en 0 lo := by
  intro w v l h hE hP _
  have hf := fail_any h 4
  have HF := Lib.hid hf; have H := Lib.hid h
  obtain ⟨y0, y1, y2, y3, y4, z0, z1, z2, z3, z4⟩ := block5 h.blk
  clear h hf
  go_enter Tryd.func11, Tryd.ntmps11
  go_wp2_with (go_at_call 12; refine HF.out.mono ?_; rintro r w2 ⟨⟨rv, rfl⟩, hg2, hp2⟩)
  go_ret
  refine ⟨none, rfl, hg2, ?_⟩
  unfold one
  exact ⟨v, l, hp2⟩

set_option maxHeartbeats 2000000 in
set_option maxRecDepth 100000 in
theorem rfilter_all {P T en d : Nat} (hd : d < 20) {w : World} {v : Value} {l : List Tok} (h : PS w P T v l en 0 (-1)) (hl : headIs l kAny = true) :
    Calls Tryd.prog 11 #[ptrP P, .int .i64 (20 - (d + 1 : Nat) : Int)] w (RFilterP w P T en (d + 1) l) := by
  have hi := is_yes h hl
  have HI := Lib.hid hi; have H := Lib.hid h
  obtain ⟨a, ha⟩ : ∃ a : Int, a = 20 - (d + 1 : Nat) := ⟨_, rfl⟩
  rw [← ha]
  have ha2 : ¬ 19 < a := by omega
  obtain ⟨y0, y1, y2, y3, y4, z0, z1, z2, z3, z4⟩ := block5 h.blk
  clear h hi
  go_enter Tryd.func11, Tryd.ntmps11
  go_wp2_with (go_at_call 17; refine HI.out.mono ?_; rintro r w2 ⟨rfl, hg2, v2, hp2⟩)
  go_ret
  refine ⟨some ⟨w2.heap.size, 0, none⟩, rfl, grownBy_trans hg2 (World.grownBy_alloc _ _ _), ?_⟩
  unfold one
  rw [if_pos hl]
  refine ⟨v2, w2.heap.size, rfl, hp2.grown (World.grownBy_alloc _ _ _), ?_⟩
  unfold RAst
  exact ⟨hg2.size, heap_alloc_new _ _⟩

set_option maxHeartbeats 2000000 in
set_option maxRecDepth 100000 in
theorem rfilter_not {P T en lo d : Nat} (hd : d < 20) (IH : RFilters P T en d lo) {w : World} {v : Value} {l : List Tok} (h : PS w P T v l en 0 (-1)) (hE : EnvF lo w) (hP : lo ≤ P) (hT : T ≤ w.heap.size) (hl0 : headIs l kAny = false) (hl : headIs l kNot = true) :
    Calls Tryd.prog 11 #[ptrP P, .int .i64 (20 - (d + 1 : Nat) : Int)] w (RFilterP w P T en (d + 1) l) := by
  have hi := is_no h hl0
  have HI := Lib.hid hi; have H := Lib.hid h; have HE := Lib.hid hE; have HH := Lib.hid IH
  obtain ⟨a, ha⟩ : ∃ a : Int, a = 20 - (d + 1 : Nat) := ⟨_, rfl⟩
  rw [← ha]
  have ha2 : ¬ 19 < a := by omega
  have ha3 : a + 1 = 20 - (d : Int) := by omega
  have HA := Lib.hid ha3
  have ha4 : 0 ≤ a := by omega
  obtain ⟨y0, y1, y2, y3, y4, z0, z1, z2, z3, z4⟩ := block5 h.blk
  clear h hi hE IH ha3 ha
  go_enter Tryd.func11, Tryd.ntmps11
  go_wp2_with (first
    | (go_at_call 11; refine Calls.mono (by rw [HA.out]; exact HH.out _ _ _ hp3 (HE.out.grown (grownBy_trans hg2 hg3) hP) hP (Nat.le_trans hT (Nat.le_trans hg2.size hg3.size))) ?_; rintro r w4 ⟨p, rfl, hg4, hm⟩)
    | (go_at_call 17; refine (is_yes hp2 hl).mono ?_; rintro r w3 ⟨rfl, hg3, v3, hp3⟩)
    | (go_at_call 17; refine HI.out.mono ?_; rintro r w2 ⟨rfl, hg2, v2, hp2⟩))
  go_ret
  refine ⟨some ⟨w4.heap.size + 1, 0, none⟩, rfl, grownBy_trans (grownBy_trans (grownBy_trans hg2 (grownBy_trans hg3 hg4)) (World.grownBy_alloc _ _ _)) (World.grownBy_alloc _ _ _), ?_⟩
  unfold one
  rw [if_neg (by rw [hl0]; simp), if_pos hl]
  cases ho : one d l.tail with
  | err e rest =>
    rw [ho] at hm
    obtain ⟨v', l', hp4⟩ := hm
    exact ⟨v', l', (hp4.grown (World.grownBy_alloc _ _ _)).grown (World.grownBy_alloc _ _ _)⟩
  | ok a rest =>
    rw [ho] at hm
    obtain ⟨v', B, rfl, hp4, hr⟩ := hm
    have hsz := hg2.size
    have hsz3 := hg3.size
    have hsz4 := hg4.size
    refine ⟨v', w4.heap.size + 1, rfl, (hp4.grown (World.grownBy_alloc _ _ _)).grown (World.grownBy_alloc _ _ _), ?_⟩
    unfold RAst
    refine ⟨by omega, w4.heap.size, 1, ?_, by omega, B, ?_, ?_⟩
    · exact (by rw [← size_alloc]; exact heap_alloc_new _ _)
    · exact (World.cell?_alloc_some _ _ _ (by rw [cell_new]; rfl)).trans (cell_new _ _ _ _)
    · exact hr.kept fun b hb hlt => ⟨by omega, by rw [Below.heap_alloc _ _ _ (by rw [size_alloc]; omega), Below.heap_alloc _ _ _ hlt]⟩
end Go.Proofs.YtfjfbiocjloilaaDoor
