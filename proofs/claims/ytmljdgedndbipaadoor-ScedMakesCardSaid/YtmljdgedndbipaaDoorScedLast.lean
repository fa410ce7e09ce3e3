/-
  Words for the reference's last loop (10.2): two rows of rows, of which one row each grows by one. No program in sight.
-/
import Derived.Test.YtmljdgedndbipaaDoorBase
namespace Go.Proofs.YtmljdgedndbipaaDoor
open Go.RowKit

/-- Two blocks alone are written. -/
structure Fr2 (w7 W : World) (P Q : Nat) : Prop where
  os : W.os = w7.os
  tape : W.tape = w7.tape
  output : W.output = w7.output
  size : w7.heap.size ≤ W.heap.size
  block : ∀ k, k < w7.heap.size → k ≠ P → k ≠ Q → W.heap[k]? = w7.heap[k]?
theorem Fr2.refl (w : World) (P Q : Nat) : Fr2 w w P Q := ⟨rfl, rfl, rfl, Nat.le_refl _, fun _ _ _ _ => rfl⟩
theorem Fr2.trans_grown {w7 W W' : World} {P Q : Nat} {row : Option Nat} (h : Fr2 w7 W P Q) (hg : W.grownBy W' row) (hr : ∀ k, row = some k → k = P ∨ k = Q ∨ w7.heap.size ≤ k) : Fr2 w7 W' P Q :=
  ⟨hg.os.trans h.os, hg.tape.trans h.tape, hg.output.trans h.output, Nat.le_trans h.size hg.size, fun k hk h1 h2 => by
    rw [hg.block k (Nat.lt_of_lt_of_le hk h.size) (fun e => by have := hr k e.symm; omega)]; exact h.block k hk h1 h2⟩
theorem Fr2.cell {w7 W : World} {P Q c i : Nat} (h : Fr2 w7 W P Q) (hc : c < w7.heap.size) (h1 : c ≠ P) (h2 : c ≠ Q) : W.cell? ⟨c, i, none⟩ = w7.cell? ⟨c, i, none⟩ := by
  simp [World.cell?, h.block c hc h1 h2]
theorem Fr2.below {w7 W : World} {P Q B : Nat} (h : Fr2 w7 W P Q) (hB : B ≤ w7.heap.size) (h1 : B ≤ P) (h2 : B ≤ Q) : Below B w7 W :=
  ⟨h.os, h.tape, h.output, h.size, fun k hk => h.block k (by omega) (by omega) (by omega)⟩
theorem Fr2.cells {w7 W : World} {P Q c : Nat} {o : Obj} (h : Fr2 w7 W P Q) (hc : w7.heap[c]? = some o) (h1 : c ≠ P) (h2 : c ≠ Q) : W.heap[c]? = some o := by
  rw [h.block c (Array.getElem?_eq_some_iff.1 hc).1 h1 h2]; exact hc

theorem Fr2.owns {w7 W : World} {P Q base : Nat} {e : TypeId} {size n : Nat} {v : Value} {xs : List Value} (h : Fr2 w7 W P Q) (ho : w7.ownsRow base e size v n xs) (hne : ∀ k, v.ownBlock = some k → k ≠ P ∧ k ≠ Q) : W.ownsRow base e size v n xs := by
  obtain ⟨hl, h2⟩ := ho
  refine ⟨hl, h2.imp id ?_⟩
  rintro ⟨g, cap, cur, hv, hb, hg, rest⟩
  subst hv
  have := hne g rfl
  exact ⟨g, cap, cur, rfl, hb, by rw [h.block g (Array.getElem?_eq_some_iff.1 hg).1 this.1 this.2]; exact hg, rest⟩
/-- What the last loop's region keeps while it goes on: two blocks alone are written to; the two rows; the rows' own rows. -/
structure LS (w7 W : World) (P Q F : Nat) (V V' : Nat → Value) (L : Nat → List Int) : Prop where
  fr : Fr2 w7 W P Q
  p : W.rowIs P 28 F V
  q : W.rowIs Q 28 F (fun i => V (F + i))
  fam : Fam W 3 w7.heap.size (2 * F) V' L
  lp : P < w7.heap.size
  lq : Q < w7.heap.size
  ne : P ≠ Q
/-- A block of one integer that no row has. -/
structure Src (W : World) (F : Nat) (V' : Nat → Value) (b : Nat) (x : Int) : Prop where
  heap : W.heap[b]? = some (.cells #[.int .i64 x] 3 (0, 0))
  own : ∀ i, i < 2 * F → (V' i).ownBlock ≠ some b
section
variable {w7 W W' : World} {P Q F : Nat} {V V' : Nat → Value} {L : Nat → List Int} {b : Nat} {x : Int}
theorem LS.grown (h : LS w7 W P Q F V V' L) (hg : W.grownBy W' none) : LS w7 W' P Q F V V' L :=
  ⟨h.fr.trans_grown hg (fun k hk => by cases hk), rowIs_kept h.p hg (by simp), rowIs_kept h.q hg (by simp), h.fam.kept hg (fun k hk => by cases hk), h.lp, h.lq, h.ne⟩
theorem LS.alloc (h : LS w7 W P Q F V V' L) (o : Obj) : LS w7 (W.alloc o) P Q F V V' L := h.grown (World.grownBy_alloc _ _ _)
theorem LS.drew (h : LS w7 W P Q F V V' L) : LS w7 W.drew P Q F V V' L := h.grown (grownBy_drewN (grownBy_refl _ _) 1)
theorem Src.new (h : LS w7 W P Q F V V' L) (x : Int) : Src (W.alloc (.cells #[.int .i64 x] 3)) F V' W.heap.size x :=
  ⟨heap_alloc_new _ _, fun i hi e => by have := ((h.fam.1 i hi).lt _ e).2; omega⟩
theorem Src.lt (h : Src W F V' b x) : b < W.heap.size := (Array.getElem?_eq_some_iff.1 h.heap).1
theorem Src.alloc (h : Src W F V' b x) (o : Obj) : Src (W.alloc o) F V' b x := ⟨by rw [Below.heap_alloc _ _ _ h.lt]; exact h.heap, h.own⟩
theorem ownBlock_slice (g n cap : Nat) : (Value.slice (some ⟨g, 0, none⟩) n cap).ownBlock = some g := rfl
theorem LS.append (h : LS w7 W P Q F V V' L) {i : Nat} (hi : i < 2 * F) {g n cap : Nat} {l : List Int} (ho : W'.ownsRow w7.heap.size 3 1 (.slice (some ⟨g, 0, none⟩) n cap) l.length (l.map (Value.int .i64)))
    (hg : W.grownBy W' (V' i).ownBlock) (hw : (V' i).ownBlock = some g ∨ g = W.heap.size) : LS w7 W' P Q F V (upd V' i (.slice (some ⟨g, 0, none⟩) n cap)) (upd L i l) := by
  have hlo : ∀ k, (V' i).ownBlock = some k → w7.heap.size ≤ k := fun k hk => ((h.fam.1 i hi).lt k hk).1
  have h1 := h.lp; have h2 := h.lq
  refine ⟨h.fr.trans_grown hg (fun k hk => .inr (.inr (hlo k hk))), rowIs_kept h.p hg (fun e => ?_), rowIs_kept h.q hg (fun e => ?_), h.fam.append hi ho hg (hw.imp id (fun e => by omega)), h.lp, h.lq, h.ne⟩
  · have := hlo P e.symm; omega
  · have := hlo Q e.symm; omega
theorem Src.append (h : Src W F V' b x) {i : Nat} (hi : i < 2 * F) {g n cap : Nat} (hg : W.grownBy W' (V' i).ownBlock) (hw : (V' i).ownBlock = some g ∨ g = W.heap.size) : Src W' F (upd V' i (.slice (some ⟨g, 0, none⟩) n cap)) b x := by
  refine ⟨heap_kept h.heap hg (fun e => h.own i hi e.symm), fun j hj => ?_⟩
  by_cases e : j = i
  · subst e
    rw [upd_at, ownBlock_slice]
    intro e2
    have e3 : g = b := Option.some.inj e2
    rcases hw with h1 | h1
    · exact h.own j hj (by rw [h1, e3])
    · have := h.lt; omega
  · rw [upd_off e]; exact h.own j hj
/-- Both rows take up what has grown. -/
theorem LS.stored (h : LS w7 W P Q F V V' L) {i : Nat} {x y : Value} (hi : i < F) (hx : V' i = x) (hy : V' (F + i) = y) (hV : ∀ j, j < 2 * F → j ≠ i → j ≠ F + i → V' j = V j) :
    LS w7 ((W.setCell ⟨P, i, none⟩ x).setCell ⟨Q, i, none⟩ y) P Q F V' V' L := by
  subst hx; subst hy
  have g1 : W.grownBy (W.setCell ⟨P, i, none⟩ (V' i)) (some P) := grownBy_setCell (grownBy_refl _ _) i _
  have g2 : (W.setCell ⟨P, i, none⟩ (V' i)).grownBy ((W.setCell ⟨P, i, none⟩ (V' i)).setCell ⟨Q, i, none⟩ (V' (F + i))) (some Q) := grownBy_setCell (grownBy_refl _ _) i _
  have hne := h.ne
  refine ⟨(h.fr.trans_grown g1 (fun k hk => by cases hk; exact .inl rfl)).trans_grown g2 (fun k hk => by cases hk; exact .inr (.inl rfl)), ?_, ?_, (h.fam.kept g1 (fun k hk => by cases hk; exact h.lp)).kept g2 (fun k hk => by cases hk; exact h.lq), h.lp, h.lq, h.ne⟩
  · refine ((h.p.set i (V' i)).setOther (a := ⟨Q, i, none⟩) hne _).congr (fun j hj => ?_)
    by_cases e : j = i
    · subst e; simp
    · simp only [e, if_false]; exact (hV j (by omega) e (by omega)).symm
  · refine ((h.q.setOther (a := ⟨P, i, none⟩) (Ne.symm hne) _).set i (V' (F + i))).congr (fun j hj => ?_)
    by_cases e : j = i
    · subst e; simp
    · simp only [e, if_false]; exact (hV (F + j) (by omega) (by omega) (by omega)).symm
/-- One integer more, out of a block of its own, at one of the rows' rows. -/
theorem step_append_src {Pg : Program} {ops : Array Oper} {o : Oper} {a : Act} {K : Act → World → Prop} {Qx : Exit → Act → World → Prop} {E : Prop} (hgd : o.guard = none) (s y : Operand) (t : TypeId)
    (ho : o.op = .call { callee := .builtin .append, args := #[s, y], argTypes := #[t, t] }) (ht : Pg.underlying t = some (.slice 3)) (hinfo : (Pg.info? 3).map (fun i => (i.zero, i.size, i.bytes)) = some (some (.int .i64 0), 1, 8))
    (h : LS w7 W P Q F V V' L) (hsrc : Src W F V' b x) {i : Nat} (hi : i < 2 * F) (hs : a.eval s = V' i) (hy : a.eval y = .slice (some ⟨b, 0, none⟩) 1 1) (hlen : (L i).length ≤ 17592186044000)
    (hk : ∀ g cap w', LS w7 w' P Q F V (upd V' i (.slice (some ⟨g, 0, none⟩) ((L i).length + 1) cap)) (upd L i (L i ++ [x])) →
      (∀ b' x', Src W F V' b' x' → Src w' F (upd V' i (.slice (some ⟨g, 0, none⟩) ((L i).length + 1) cap)) b' x') → K (a.put o.dst (.slice (some ⟨g, 0, none⟩) ((L i).length + 1) cap)) w') :
    if Region.wanted o (yielded ops a.tmps) = true then Oper.wp Pg o a W K Qx else E := by
  obtain ⟨j, hj, hz⟩ := Option.map_eq_some_iff.1 hinfo
  simp only [Prod.mk.injEq] at hz
  obtain ⟨hz1, hz2, hz3⟩ := hz
  refine step_append_lies _ hgd s y t ho w7.heap.size 3 j (.int .i64 0) 1 8 ht hj hz1 hz2 hz3 rfl (by omega) (V' i) (L i).length ((L i).map (Value.int .i64)) hs (h.fam.1 i hi) ⟨b, 0, none⟩ 1 1 [.int .i64 x] hy rfl
    (World.news_of_block (cs := #[.int .i64 x]) hsrc.heap) (by intro u hu; simp at hu; subst hu; rfl) (by omega) (by unfold maxLen; omega) (by omega) h.fr.size _ rfl ?_
  intro g cap w' a1 a2 a3 _
  exact hk g cap w' (h.append hi (by rw [map_snoc, List.length_append]; exact a1) a2 a3) (fun b' x' hs' => hs'.append hi a2 a3)
end
end Go.Proofs.YtmljdgedndbipaaDoor
