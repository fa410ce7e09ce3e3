/-
  What is proved here: the program's filter with not ahead of tests alone (11.3): the whole.
-/
import Derived.Test.YtfjfbiocjloilaaDoorFiltI4
namespace Go.Proofs.YtfjfbiocjloilaaDoor
open Go.RowKit Go.Sort

theorem vkids_get {S : Nat → Prop} {W : World} {g : Nat} : ∀ {l : List Ast} {i : Nat}, VKids S W g i l → ∀ j (h : j < l.length), ∃ u, W.cell? ⟨g, i + j, none⟩ = some u ∧ VAst S W u l[j]
  | [], _, _, j, hj => by simp at hj
  | a :: l, i, h, j, hj => by
    unfold VKids at h
    obtain ⟨⟨u, h1, h2⟩, h3⟩ := h
    cases j with
    | zero => exact ⟨u, h1, h2⟩
    | succ j =>
      have hj2 : j < l.length := by simpa using hj
      obtain ⟨u', h4, h5⟩ := vkids_get h3 j hj2
      exact ⟨u', by rw [show i + (j + 1) = i + 1 + j by omega]; exact h4, by simpa using h5⟩
theorem wgts_get : ∀ {l : List Ast} (j : Nat) (h : j < l.length), wgt l[j] ≤ wgts l
  | [], j, hj => by simp at hj
  | a :: l, j, hj => by
    cases j with
    | zero => simp only [wgts, List.getElem_cons_zero]; omega
    | succ j =>
      have hj2 : j < l.length := by simpa using hj
      have := wgts_get j hj2
      simp only [wgts, List.getElem_cons_succ]; omega
theorem inss_at (t : Bool) {l : List Ast} {j : Nat} (h : j < (inss t l).length) (h2 : j < l.length) : (inss t l)[j] = ins t l[j] := by
  have := inss_get t l j h2
  rw [List.getElem?_eq_getElem h] at this
  exact Option.some.inj this
theorem vinside {N : Nat} : ∀ (n : Nat) {A : Ast} {w : World} {v : Value}, wgt A ≤ n → VAst (fun b => b < N) w v A → N ≤ w.heap.size → Calls Tryd.prog 6 #[v] w (RVP N w (ins false A)) := by
  intro n
  induction n with
  | zero =>
    intro A w v hw
    have := (ins_wgt false A).1
    omega
  | succ n IH =>
    intro A w v hw h hN
    have hkeep : ∀ {W : World} {u : Value} {a : Ast}, Below w.heap.size w W → VAst (fun b => b < N) w u a → VAst (fun b => b < N) W u a := fun hb hu => hu.kept fun b hb' hl => ⟨hb', hb.block b hl⟩
    cases A with
    | any =>
      have h2 := h; unfold VAst at h2
      exact vin_leaf h2 (.inl rfl) h
    | test f lo hi =>
      have h2 := h; unfold VAst at h2
      exact vin_leaf h2.1 (.inr rfl) h
    | has f lo =>
      have h2 := h; unfold VAst at h2
      exact vin_leaf h2.1 (.inr rfl) h
    | several o l =>
      have hw2 : wgt (.several o l) = 2 + wgts l := by simp only [wgt]
      unfold VAst at h
      obtain ⟨h0, g, c, rfl, hg, hk⟩ := h
      simp only [ins]
      refine vin_several (L := inss false l) (inss_length _ _) h0.1 h0.2 hN (fun W hb j hj => ?_)
      have hj2 : j < l.length := by rwa [inss_length] at hj
      obtain ⟨u, h1, h2⟩ := vkids_get hk j hj2
      obtain ⟨ut, up, rfl⟩ := h2.iface
      refine ⟨ut, up, by rw [Nat.zero_add] at h1; exact below_cell hb h1 (World.block_lt_of_cell? w _ h1), ?_⟩
      rw [inss_at false hj hj2]
      have := wgts_get j hj2
      exact IH (by omega) (hkeep hb h2) (Nat.le_trans hN hb.size)
    | not a =>
      have hw1 : wgt (.not a) = 1 + wgt a := by simp only [wgt]
      have h2 := h
      unfold VAst at h2
      obtain ⟨u, rfl, hu⟩ := h2
      cases a with
      | any =>
        have h3 := hu; unfold VAst at h3
        subst h3
        exact vin_notleaf (.inl rfl) h
      | test f lo hi =>
        have h3 := hu; unfold VAst at h3
        obtain ⟨rfl, _⟩ := h3
        exact vin_notleaf (.inr rfl) h
      | has f lo =>
        have h3 := hu; unfold VAst at h3
        obtain ⟨rfl, _⟩ := h3
        exact vin_notleaf (.inr rfl) h
      | not a2 =>
        have hw2 : wgt (.not a2) = 1 + wgt a2 := by simp only [wgt]
        unfold VAst at hu
        obtain ⟨u2, rfl, hu2⟩ := hu
        obtain ⟨ut, up, rfl⟩ := hu2.iface
        have he : ins false (.not (.not a2)) = ins false a2 := by simp only [ins, Bool.not_false, Bool.not_true]
        rw [he]
        exact vin_notnot fun W hb => IH (by omega) (hkeep hb hu2) (Nat.le_trans hN hb.size)
      | several o l =>
        have hw2 : wgt (.several o l) = 2 + wgts l := by simp only [wgt]
        unfold VAst at hu
        obtain ⟨h0, g, c, rfl, hg, hk⟩ := hu
        have he : ins false (.not (.several o l)) = .several (!o) (inss true l) := by simp only [ins, Bool.not_false, if_true]
        rw [he]
        refine vin_notseveral (L := inss true l) (inss_length _ _) h0.1 h0.2 hN (fun W hb j hj => ?_)
        have hj2 : j < l.length := by rwa [inss_length] at hj
        obtain ⟨u, h1, h2⟩ := vkids_get hk j hj2
        obtain ⟨ut, up, rfl⟩ := h2.iface
        refine ⟨ut, up, by rw [Nat.zero_add] at h1; exact below_cell hb h1 (World.block_lt_of_cell? w _ h1), ?_⟩
        have he2 : (inss true l)[j] = ins false (.not l[j]) := by rw [inss_at true hj hj2]; simp only [ins, Bool.not_false]
        rw [he2]
        have := wgts_get j hj2
        refine IH (by simp only [wgt]; omega) ?_ (Nat.le_trans hN hb.size)
        unfold VAst
        exact ⟨_, rfl, hkeep hb h2⟩
end Go.Proofs.YtfjfbiocjloilaaDoor
