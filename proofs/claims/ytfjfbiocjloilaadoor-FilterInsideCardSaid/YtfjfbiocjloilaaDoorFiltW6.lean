/-
  What is proved here: the document's parser (11.2): a filter, and a whole text.
-/
import Derived.Test.YtfjfbiocjloilaaDoorFiltW5
namespace Go.Proofs.YtfjfbiocjloilaaDoor
open Go.RowKit Go.Sort

theorem rfilters (P T en lo : Nat) : ∀ d, d ≤ 20 → RFilters P T en d lo
  | 0, _ => rfilter_deep P T en lo
  | d + 1, hd => by
    have IH := rfilters P T en lo d (by omega)
    intro w v l h hE hP hT
    by_cases h0 : headIs l kAny = true
    · exact rfilter_all (by omega) h h0
    · have h0' : headIs l kAny = false := by simpa using h0
      by_cases h1 : headIs l kNot = true
      · exact rfilter_not (by omega) IH h hE hP hT h0' h1
      · have h1' : headIs l kNot = false := by simpa using h1
        by_cases h2 : headIs l kOpen = true
        · exact rfilter_list (by omega) IH h hE hP hT h0' h1' h2
        · exact rfilter_test (by omega) h hE hP hT h0' h1' (by simpa using h2)

/-! ### the signs of a text -/
theorem tokGo_wf {s : ByteArray} : ∀ n i, i ≤ s.size → (∀ t ∈ tokGo s n i, t.1.size ≤ s.size ∧ t.2 ≤ s.size) ∧ (tokGo s n i).length ≤ s.size - i
  | 0, _, _ => ⟨(fun t h => by cases h), (by simp [tokGo])⟩
  | n + 1, i, hi => by
    unfold tokGo
    split
    · rename_i h
      split
      · obtain ⟨a, b⟩ := tokGo_wf (s := s) n (i + 1) (by omega)
        exact ⟨a, by omega⟩
      · rename_i hs
        split
        · obtain ⟨a, b⟩ := tokGo_wf (s := s) n (i + 1) (by omega)
          refine ⟨fun t ht => ?_, by simp only [List.length_cons]; omega⟩
          rcases List.mem_cons.1 ht with rfl | ht
          · refine ⟨?_, hi⟩
            show (s.extract i (i + 1)).size ≤ _
            rw [ByteArray.size_extract]; omega
          · exact a t ht
        · rename_i hp
          have hg : i < wordEnd s (s.size - i) i := by
            rw [show s.size - i = (s.size - i - 1) + 1 by omega]
            exact wordEnd_gt h (by simp [isSep, hs]; simpa using hp)
          have hle := wordEnd_le s (s.size - i) i hi
          obtain ⟨a, b⟩ := tokGo_wf (s := s) n _ hle
          refine ⟨fun t ht => ?_, by simp only [List.length_cons]; omega⟩
          rcases List.mem_cons.1 ht with rfl | ht
          · refine ⟨?_, hi⟩
            show (s.extract i (wordEnd s (s.size - i) i)).size ≤ _
            rw [ByteArray.size_extract]; omega
          · exact a t ht
    · exact ⟨(fun t h => by cases h), (by simp)⟩
theorem toks_wf {s : ByteArray} (hs : s.size ≤ 2000) : (∀ t ∈ toks s, t.1.size ≤ 2000 ∧ t.2 ≤ 2000) ∧ (toks s).length ≤ 2000 := by
  obtain ⟨a, b⟩ := tokGo_wf (s := s) (s.size + 1) 0 (by omega)
  exact ⟨fun t ht => ⟨Nat.le_trans (a t ht).1 hs, Nat.le_trans (a t ht).2 hs⟩, Nat.le_trans b (by omega)⟩
theorem flT_get : ∀ (ts : List Tok) (i : Nat) (h : i < ts.length), (flT ts)[i * 2]? = some (.string ts[i].1) ∧ (flT ts)[i * 2 + 1]? = some (.int .i64 ts[i].2)
  | t :: ts, 0, _ => ⟨rfl, rfl⟩
  | t :: ts, i + 1, h => by
    have := flT_get ts i (by simpa using h)
    have e : flT (t :: ts) = .string t.1 :: .int .i64 t.2 :: flT ts := rfl
    rw [e, show (i + 1) * 2 = i * 2 + 1 + 1 by omega]
    simpa using this
theorem tokAt_own {W : World} {P : Nat} {v : Value} {ts : List Tok} (h : W.ownsRow (P + 1) 65 2 v ts.length (flT ts)) : TokAt P W.heap.size W v ts := by
  obtain ⟨hn, h⟩ := h
  rcases h with ⟨rfl, h0⟩ | ⟨g, cap, cur, rfl, hb, hg, hn, hm, hs, ht⟩
  · exact ⟨none, 0, by rw [h0], by omega, by omega, fun h => by omega⟩
  · have hgl := (Array.getElem?_eq_some_iff.1 hg).1
    refine ⟨some ⟨g, 0, none⟩, cap, rfl, hn, by unfold maxLen at hm; omega, fun h0 => ⟨g, 0, rfl, by omega, hgl, fun i hi => ?_⟩⟩
    have e : ∀ j, j < ts.length * 2 → W.cell? ⟨g, 0 + j, none⟩ = (flT ts)[j]? := fun j hj => by
      have h1 : (cur.toList.take (ts.length * 2))[j]? = (flT ts)[j]? := by rw [ht]
      rw [List.getElem?_take, if_pos hj] at h1
      simp only [World.cell?, hg, Nat.zero_add]
      rw [← h1]; simp
    have hh := flT_get ts i hi
    refine ⟨(e _ (by omega)).trans hh.1, ?_⟩
    rw [show (0 + i * 2 + 1) = 0 + (i * 2 + 1) by omega]
    exact (e _ (by omega)).trans hh.2

def RParseP (w : World) (s : ByteArray) (r : Ending) (w' : World) : Prop :=
  ∃ p, r = .returned (.tuple #[.pointer p, .agg #[.int .i64 (parseE s).1, .int .i64 (parseE s).2.1]]) ∧ Below w.heap.size w w' ∧ ∀ a, (parseE s).2.2 = some a → ∃ B, p = some ⟨B, 0, none⟩ ∧ RAst (fun b => w.heap.size ≤ b) w' B a
theorem bare_ref (e : Int) (w : World) : Calls Tryd.prog 9 #[.int .i64 e] w fun en w' => en = .returned (.agg #[.int .i64 e, .int .i64 (-1)]) ∧ Below w.heap.size w w' := by
  go_enter Tryd.func9, Tryd.ntmps9
  go_wp2
  exact bodyPost_ret (v := .agg #[.int .i64 e, .int .i64 (-1)]) (by simp [results, Tryd.results9, go_sem]) rfl ⟨rfl, (Below.refl _ _).alloc (Nat.le_refl _) _⟩
theorem block2 {W : World} {b : Nat} {x y : Value} {t : TypeId} (h : W.heap[b]? = some (.cells #[x, y] t (0, 0))) :
    W.cell? ⟨b, 0, none⟩ = some x ∧ W.cell? ⟨b, 1, none⟩ = some y ∧ W.frozen? ⟨b, 0, none⟩ = false ∧ W.frozen? ⟨b, 1, none⟩ = false := by
  refine ⟨?_, ?_, ?_, ?_⟩ <;> simp [World.cell?, World.frozen?, h]
set_option maxHeartbeats 2000000 in
set_option maxRecDepth 100000 in
theorem rparse_long (s : ByteArray) (w : World) (hs : 2000 < s.size) (hm : s.size ≤ 9223372036854775807) : Calls Tryd.prog 4 #[.string s] w (RParseP w s) := by
  have hpe : parseE s = (4, -1, none) := by unfold parseE; rw [if_pos hs]
  have HPE := Lib.hid hpe
  clear hpe
  go_enter Tryd.func4, Tryd.ntmps4
  go_wp2_with (go_at_call 9; refine (bare_ref _ _).mono ?_; rintro r w1 ⟨rfl, hb1⟩; have hR := (hb1.block w.heap.size (by simp)).trans (heap_alloc_new _ _); obtain ⟨y0, y1, z0, z1⟩ := block2 hR; clear hR)
  refine bodyPost_ret (v := .tuple #[.pointer none, .agg #[.int .i64 4, .int .i64 (-1)]]) (by simp [results, Tryd.results4, go_sem, y0, y1]) rfl ⟨none, by rw [HPE.out], (((Below.refl _ _).alloc (Nat.le_refl _) _).trans (hb1.mono (by simp))).setCell (Nat.le_refl _) _ |>.setCell (Nat.le_refl _) _, fun a h => by rw [HPE.out] at h; cases h⟩

set_option maxHeartbeats 2000000 in
set_option maxRecDepth 100000 in
theorem rparse_any {lo : Nat} (s : ByteArray) (w : World) (hE : EnvF lo w) (hs : s.size ≤ 2000) : Calls Tryd.prog 4 #[.string s] w (RParseP w s) := by
  have hsg : ∀ W : World, Below w.heap.size w W → Calls Tryd.prog 10 #[.string s, .string ⟨#[40, 41]⟩] W (SignsP W s) := fun W hb =>
    signs_any s W (by omega) (hE.below (hb.mono hE.hi)).fine0 (hE.below (hb.mono hE.hi)).fine1
  have HS := Lib.hid hsg; have HE := Lib.hid hE
  have hlo := hE.hi
  clear hsg hE
  go_enter Tryd.func4, Tryd.ntmps4
  go_wp2_with (go_at_call 10; refine (HS.out _ ((Below.refl _ _).alloc (Nat.le_refl _) _)).mono ?_; rintro r w1 ⟨P, rfl, hcut⟩)
  obtain ⟨v, hb1, ho1, hB1, hP1⟩ := hcut
  rw [size_alloc] at hP1
  have hBw : Below w.heap.size w w1 := ((Below.refl _ _).alloc (Nat.le_refl _) _).trans (hB1.mono (by simp))
  obtain ⟨hwf, hwl⟩ := toks_wf hs
  have hps : PS w1 P w1.heap.size v (toks s) s.size 0 (-1) := ⟨hb1, tokAt_own ho1, hwf, by omega⟩
  have hcell := (hB1.block w.heap.size (by simp)).trans (heap_alloc_new _ _)
  have hPs : w.heap.size ≠ P := by omega
  have HPS := Lib.hid hps; have HC := Lib.hid hcell; have HB := Lib.hid hBw
  have hE1 := HE.out.below (hBw.mono hlo)
  have HE1 := Lib.hid hE1
  have hcl : w.heap.size < w1.heap.size := (Array.getElem?_eq_some_iff.1 hcell).1
  clear hps hcell hBw hE1 hb1 ho1 hB1 hwf hwl
  refine Calls.mono (by rw [show (0 : Int) = 20 - ((20 : Nat) : Int) from rfl]; exact rfilters P w1.heap.size s.size lo 20 (Nat.le_refl _) w1 v (toks s) HPS.out HE1.out (by omega) (Nat.le_refl _)) ?_
  rintro r w2 ⟨p, rfl, hg2, hm⟩
  have hB2 : Below w.heap.size w w2 := HB.out.trans (below_of_grown hg2 (by omega) (Nat.le_of_lt hcl))
  have hc2 := (hg2.block w.heap.size hcl (by simpa using hPs)).trans HC.out
  obtain ⟨y0, y1, z0, z1⟩ := block2 hc2
  have HM := Lib.hid hm; have HB2 := Lib.hid hB2; have HC2 := Lib.hid hc2
  clear hm hB2 hg2 hc2
  cases hone : one 20 (toks s) with
  | err e rest =>
    have hpe : parseE s = (e, (hereOf rest s.size : Int), none) := by unfold parseE; rw [if_neg (by omega), hone]
    have he := one_err _ _ _ _ hone
    have hm := HM.out
    rw [hone] at hm
    obtain ⟨v', l', hp⟩ := hm
    have HPE := Lib.hid hpe; have HP := Lib.hid hp
    obtain ⟨p0, p1, p2, p3, p4, q0, q1, q2, q3, q4⟩ := block5 hp.blk
    obtain ⟨a, c, rfl, h1, h2, h3⟩ := hp.tok
    clear hpe hone hp h3 HM
    by_cases hl : 0 < l'.length
    · go_wp2_with (go_at_call 12; refine (fail_any HP.out 3).mono ?_; rintro r w3 ⟨⟨rv, rfl⟩, hg3, hp3⟩; rw [if_neg he, if_neg he] at hp3; have hc3 := (hg3.block w.heap.size (Array.getElem?_eq_some_iff.1 HC2.out).1 (by simpa using hPs)).trans HC2.out; obtain ⟨x0, x1, u0, u1⟩ := block2 hc3; obtain ⟨s0, s1, s2, s3, s4, t0, t1, t2, t3, t4⟩ := block5 hp3.blk)
      go_region
      go_wp2
      refine bodyPost_ret (v := .tuple #[.pointer p, .agg #[.int .i64 e, .int .i64 (hereOf rest s.size : Nat)]]) (by simp [results, Tryd.results4, go_sem, x0, x1]) rfl ?_
      refine ⟨p, by rw [HPE.out], (((HB2.out.trans (below_of_grown hg3 (by omega) (Nat.le_of_lt (Array.getElem?_eq_some_iff.1 HC2.out).1))).setCell (Nat.le_refl _) _).setCell (Nat.le_refl _) _).trans ⟨rfl, rfl, rfl, Nat.le_refl _, fun _ _ => rfl⟩, fun a h => by rw [HPE.out] at h; cases h⟩
    · go_wp2
      go_region
      go_wp2
      refine bodyPost_ret (v := .tuple #[.pointer p, .agg #[.int .i64 e, .int .i64 (hereOf rest s.size : Nat)]]) (by simp [results, Tryd.results4, go_sem, y0, y1]) rfl ?_
      refine ⟨p, by rw [HPE.out], ((HB2.out.setCell (Nat.le_refl _) _).setCell (Nat.le_refl _) _).trans ⟨rfl, rfl, rfl, Nat.le_refl _, fun _ _ => rfl⟩, fun a h => by rw [HPE.out] at h; cases h⟩
  | ok a rest =>
    have hm := HM.out
    rw [hone] at hm
    obtain ⟨v', B, rfl, hp, hr⟩ := hm
    have HP := Lib.hid hp; have HR := Lib.hid hr
    obtain ⟨p0, p1, p2, p3, p4, q0, q1, q2, q3, q4⟩ := block5 hp.blk
    obtain ⟨av, c, rfl, h1, h2, h3⟩ := hp.tok
    cases rest with
    | cons t q =>
      have hpe : parseE s = (3, (hereOf (t :: q) s.size : Int), none) := by unfold parseE; rw [if_neg (by omega), hone]; rfl
      have HPE := Lib.hid hpe
      have hll : (t :: q).length = q.length + 1 := rfl
      rw [hll] at p0 h1
      clear hpe hone hp h3 HM hr
      go_wp2_with (go_at_call 12; refine (fail_any HP.out 3).mono ?_; rintro r w3 ⟨⟨rv, rfl⟩, hg3, hp3⟩; rw [if_pos rfl, if_pos rfl] at hp3; have hc3 := (hg3.block w.heap.size (Array.getElem?_eq_some_iff.1 HC2.out).1 (by simpa using hPs)).trans HC2.out; obtain ⟨x0, x1, u0, u1⟩ := block2 hc3; obtain ⟨s0, s1, s2, s3, s4, t0, t1, t2, t3, t4⟩ := block5 hp3.blk)
      go_region
      go_wp2
      refine bodyPost_ret (v := .tuple #[.pointer (some ⟨B, 0, none⟩), .agg #[.int .i64 3, .int .i64 (hereOf (t :: q) s.size : Nat)]]) (by simp [results, Tryd.results4, go_sem, x0, x1]) rfl ?_
      refine ⟨(some ⟨B, 0, none⟩), by rw [HPE.out], (((HB2.out.trans (below_of_grown hg3 (by omega) (Nat.le_of_lt (Array.getElem?_eq_some_iff.1 HC2.out).1))).setCell (Nat.le_refl _) _).setCell (Nat.le_refl _) _).trans ⟨rfl, rfl, rfl, Nat.le_refl _, fun _ _ => rfl⟩, fun a h => by rw [HPE.out] at h; cases h⟩
    | nil =>
      have hpe : parseE s = (0, -1, some a) := by unfold parseE; rw [if_neg (by omega), hone]; rfl
      have HPE := Lib.hid hpe
      clear hpe hone hp h3 HM hr
      go_wp2
      go_region
      go_wp2
      refine bodyPost_ret (v := .tuple #[.pointer (some ⟨B, 0, none⟩), .agg #[.int .i64 0, .int .i64 (-1)]]) (by simp [results, Tryd.results4, go_sem, y0, y1]) rfl ?_
      refine ⟨(some ⟨B, 0, none⟩), by rw [HPE.out], ((HB2.out.setCell (Nat.le_refl _) _).setCell (Nat.le_refl _) _).trans ⟨rfl, rfl, rfl, Nat.le_refl _, fun _ _ => rfl⟩, fun a' h => by
        rw [HPE.out] at h
        injection h with h
        subst h
        refine ⟨B, rfl, HR.out.kept fun b hb hlt => ⟨by omega, ?_⟩⟩
        have hne : w.heap.size ≠ b := by omega
        show ((w2.setCell ⟨w.heap.size, 0, none⟩ _).setCell ⟨w.heap.size, 1, none⟩ _).heap[b]? = _
        rw [Below.heap_setCell _ _ _ _ (Ne.symm hne), Below.heap_setCell _ _ _ _ (Ne.symm hne)]⟩
end Go.Proofs.YtfjfbiocjloilaaDoor
