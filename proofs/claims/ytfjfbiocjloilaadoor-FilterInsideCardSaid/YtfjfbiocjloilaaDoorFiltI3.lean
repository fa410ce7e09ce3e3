/-
  What is proved here: the document's filter with not ahead of tests alone (11.3): the whole.
-/
import Derived.Test.YtfjfbiocjloilaaDoorFiltI2
namespace Go.Proofs.YtfjfbiocjloilaaDoor
open Go.RowKit Go.Sort

mutual
theorem rinside {N : Nat} : ∀ {A : Ast} {w : World} {B : Nat} (t : Bool), RAst (fun b => b < N) w B A → N ≤ w.heap.size → Calls Tryd.prog 7 #[ptrP B, .bool t] w (RInP N w (ins t A))
  | .any, w, B, t, h, _ => by
    have h2 := h; unfold RAst at h2
    simp only [ins]
    exact rin_leaf (f := 0) (.inl rfl) h2.2 h
  | .test f n m, w, B, t, h, _ => by
    have h2 := h; unfold RAst at h2
    simp only [ins]
    exact rin_leaf (.inr (.inl rfl)) h2.2.2.2.2 h
  | .has f n, w, B, t, h, _ => by
    have h2 := h; unfold RAst at h2
    simp only [ins]
    exact rin_leaf (.inr (.inr rfl)) h2.2.2.2 h
  | .not A, w, B, t, h, hN => by
    unfold RAst at h
    obtain ⟨_, g, c, h1, _, k, h2, h3⟩ := h
    simp only [ins]
    exact rin_not h1 h2 (rinside (!t) h3 hN)
  | .several o l, w, B, t, h, hN => by
    unfold RAst at h
    obtain ⟨_, h0, g, c, h1, hg, h2⟩ := h
    have hgl : g < w.heap.size := Nat.lt_of_lt_of_le hg hN
    have hks := fun (W : World) (hb : Below w.heap.size w W) => rinsides (N := N) t (RKids.kept (S' := fun b => b < N) (fun b hb' hlt => ⟨hb', hb.block b hlt⟩) (hb.block g hgl) h2) (Nat.le_trans hN hb.size)
    have hk : ∀ W, Below w.heap.size w W → ∀ j (h : j < (inss t l).length), ∃ k, W.cell? ⟨g, j, none⟩ = some (ptrP k) ∧ Calls Tryd.prog 7 #[ptrP k, .bool t] W (RInP N W (inss t l)[j]) := fun W hb j hj => by
      have := hks W hb j hj; rwa [Nat.zero_add] at this
    simp only [ins]
    cases o <;> cases t
    · exact rin_several_false_false h1 (inss_length _ _) h0.1 h0.2 hN hk
    · exact rin_several_false_true h1 (inss_length _ _) h0.1 h0.2 hN hk
    · exact rin_several_true_false h1 (inss_length _ _) h0.1 h0.2 hN hk
    · exact rin_several_true_true h1 (inss_length _ _) h0.1 h0.2 hN hk
theorem rinsides {N : Nat} : ∀ {l : List Ast} {w : World} {g i : Nat} (t : Bool), RKids (fun b => b < N) w g i l → N ≤ w.heap.size → ∀ j (h : j < (inss t l).length), ∃ k, w.cell? ⟨g, i + j, none⟩ = some (ptrP k) ∧ Calls Tryd.prog 7 #[ptrP k, .bool t] w (RInP N w (inss t l)[j])
  | [], _, _, _, _, _, _, j, hj => by simp [inss] at hj
  | A :: l, w, g, i, t, h, hN, j, hj => by
    unfold RKids at h
    obtain ⟨⟨u, h1, h2⟩, h3⟩ := h
    cases j with
    | zero =>
      refine ⟨u, h1, ?_⟩
      have := rinside t h2 hN
      simpa only [inss, List.getElem_cons_zero] using this
    | succ j =>
      have hj2 : j < (inss t l).length := by simp only [inss, List.length_cons] at hj; omega
      obtain ⟨u', h4, h5⟩ := rinsides t h3 hN j hj2
      refine ⟨u', by rw [show i + (j + 1) = i + 1 + j by omega]; exact h4, ?_⟩
      simpa only [inss, List.getElem_cons_succ] using h5
end
end Go.Proofs.YtfjfbiocjloilaaDoor
