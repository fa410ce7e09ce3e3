/-
  What is proved here: the document's parser (11.2): a field's test.
-/
import Derived.Test.YtfjfbiocjloilaaDoorFiltW3
namespace Go.Proofs.YtfjfbiocjloilaaDoor
open Go.RowKit Go.Sort

theorem PS.off {W W' : World} {P T F : Nat} {v : Value} {l : List Tok} {en : Nat} {fe fp : Int} (h : PS W P T v l en fe fp) (hg : W.grownBy W' (some F)) (hF : T ≤ F) (hP : F ≠ P) : PS W' P T v l en fe fp := by
  refine ⟨(hg.block P h.lt (by simpa using Ne.symm hP)).trans h.blk, ?_, h.wf, h.len⟩
  obtain ⟨a, c, rfl, h1, h2, h3⟩ := h.tok
  refine ⟨a, c, rfl, h1, h2, fun h0 => ?_⟩
  obtain ⟨b, o, rfl, hb, hbT, hc⟩ := h3 h0
  exact ⟨b, o, rfl, hb, hbT, fun i hi => ⟨hg.cell (hc i hi).1 (by simp; omega), hg.cell (hc i hi).2 (by simp; omega)⟩⟩
theorem grown_set {w w' : World} {r : Option Nat} {F : Nat} (i : Nat) (v : Value) (h : w.grownBy w' r) (hF : w.heap.size ≤ F) : w.grownBy (w'.setCell ⟨F, i, none⟩ v) r := by
  have g := grownBy_setCell (b := F) (grownBy_refl w' _) i v
  exact ⟨g.os.trans h.os, g.tape.trans h.tape, g.output.trans h.output, Nat.le_trans h.size g.size, fun k hk hr => (g.block k (Nat.lt_of_lt_of_le hk h.size) (by simp; omega)).trans (h.block k hk hr)⟩
theorem block5_set2 {W : World} {b : Nat} {x y z u v x' : Value} {t : TypeId} (h : W.heap[b]? = some (.cells #[x, y, z, u, v] t (0, 0))) :
    (W.setCell ⟨b, 2, none⟩ x').heap[b]? = some (.cells #[x, y, x', u, v] t (0, 0)) := by
  simp [World.setCell, Array.getElem?_modify, h]
theorem block5_set3 {W : World} {b : Nat} {x y z u v x' : Value} {t : TypeId} (h : W.heap[b]? = some (.cells #[x, y, z, u, v] t (0, 0))) :
    (W.setCell ⟨b, 3, none⟩ x').heap[b]? = some (.cells #[x, y, z, x', v] t (0, 0)) := by
  simp [World.setCell, Array.getElem?_modify, h]
theorem numE_ok {s : List UInt8} (h : numE s = 0) : NumOk (numV s) := by
  unfold numE at h
  unfold numV
  split at h
  · omega
  · rename_i v hv
    rw [hv]
    split at h
    · rename_i hb; exact hb
    · omega
theorem PS.tail_next {W : World} {P T b o c : Nat} {t : Tok} {q : List Tok} {en : Nat} {fe fp : Int} (h : PS W P T (.slice (some ⟨b, o, none⟩) (t :: q).length c) (t :: q) en fe fp) :
    PS (W.setCell ⟨P, 0, none⟩ (.slice (some ⟨b, o + 2, none⟩) q.length (c - 1))) P T (.slice (some ⟨b, o + 2, none⟩) q.length (c - 1)) q en fe fp := by
  obtain ⟨a, c', he, h1, h2, h3⟩ := h.tok
  injection he with e1 e2 e3
  subst e1; subst e3
  obtain ⟨b', o', heq, hb, hbT, hc⟩ := h3 (by simp)
  cases heq
  exact h.set_v _ (tokAt_tail hc hb hbT (by simpa using h1) h2) (fun t ht => List.mem_cons_of_mem _ ht) (by simp)
theorem PS.tail_last {W : World} {P T b o c : Nat} {t : Tok} {en : Nat} {fe fp : Int} (h : PS W P T (.slice (some ⟨b, o, none⟩) [t].length c) [t] en fe fp) :
    PS (W.setCell ⟨P, 0, none⟩ (.slice (some ⟨b, o, none⟩) 0 0)) P T (.slice (some ⟨b, o, none⟩) 0 0) [] en fe fp :=
  h.set_v _ ⟨_, _, rfl, Nat.le_refl _, by omega, fun h => absurd h (by simp)⟩ (fun t ht => by cases ht) (by simp)
theorem tstGo_cut {i : Nat} {t : Tok} {q : List Tok} {ix e1 e2 n1 n2 fe : Int} (hix : ix = Lib.index t.1.data.toList dots) (h0 : 0 ≤ ix) (he1 : e1 = numE (t.1.extract 0 ix.toNat).data.toList)
    (he2 : e2 = numE (t.1.extract (ix + 2).toNat t.1.size).data.toList) (hn1 : n1 = numV (t.1.extract 0 ix.toNat).data.toList) (hn2 : n2 = numV (t.1.extract (ix + 2).toNat t.1.size).data.toList) (hfe : fe = if e1 = 0 then e2 else e1) :
    tstGo i false (t :: q) = if fe ≠ 0 then .err fe (t :: q) else if n2 < n1 then .err 10 (t :: q) else .ok (.test i n1 n2) q := by
  have hc : Lib.cut t.1.data.toList dots = ((t.1.extract 0 ix.toNat).data.toList, (t.1.extract (ix + 2).toNat t.1.size).data.toList, true) := by
    unfold Lib.cut
    rw [← hix, if_pos h0, Lib.extract_data, Lib.extract_to_end, show (ix + 2).toNat = ix.toNat + dots.length from by show _ = ix.toNat + 2; omega]
    rfl
  simp only [tstGo]
  rw [if_neg (by omega), hc]
  simp only [Bool.false_eq_true, if_false]
  rw [← he1, ← he2, ← hn1, ← hn2, hfe]
  by_cases h1 : e1 = 0
  · simp only [h1, if_true, ne_eq, not_true_eq_false, if_false]
  · simp only [h1, if_false, ne_eq, not_false_eq_true, if_true]
theorem num_both {t : Tok} {ix e1 e2 n1 n2 fe : Int} (he1 : e1 = numE (t.1.extract 0 ix.toNat).data.toList)
    (he2 : e2 = numE (t.1.extract (ix + 2).toNat t.1.size).data.toList) (hn1 : n1 = numV (t.1.extract 0 ix.toNat).data.toList) (hn2 : n2 = numV (t.1.extract (ix + 2).toNat t.1.size).data.toList) (hfe : fe = if e1 = 0 then e2 else e1)
    (hz : fe = 0) : NumOk n1 ∧ NumOk n2 := by
  subst hz
  by_cases h1 : e1 = 0
  · rw [if_pos h1] at hfe
    exact ⟨hn1 ▸ numE_ok (he1 ▸ h1), hn2 ▸ numE_ok (he2 ▸ hfe.symm)⟩
  · rw [if_neg h1] at hfe; exact absurd hfe.symm h1
theorem fieldAt_eq {l : List Tok} : ∀ (n i k : Nat), (∀ j, i ≤ j → j < k → headIs l (kField j) = false) → headIs l (kField k) = true → i ≤ k → k < i + n → fieldAt l n i = k
  | 0, i, k, _, _, h1, h2 => by omega
  | n + 1, i, k, ha, hk, h1, h2 => by
    unfold fieldAt
    by_cases hik : i = k
    · subst hik; rw [if_pos hk]
    · rw [if_neg (by rw [ha i (Nat.le_refl _) (by omega)]; simp)]
      exact fieldAt_eq n (i + 1) k (fun j h3 h4 => ha j (by omega) h4) hk (by omega) (by omega)
theorem fieldAt_none {l : List Tok} : ∀ (n i : Nat), (∀ j, i ≤ j → j < i + n → headIs l (kField j) = false) → fieldAt l n i = 5
  | 0, i, _ => rfl
  | n + 1, i, ha => by
    unfold fieldAt
    rw [if_neg (by rw [ha i (Nat.le_refl _) (by omega)]; simp)]
    exact fieldAt_none n (i + 1) (fun j h3 h4 => ha j (by omega) (by omega))

set_option maxHeartbeats 2000000 in
set_option maxRecDepth 100000 in
theorem rfilter_test {P T en lo d : Nat} (hd : d < 20) {w : World} {v : Value} {l : List Tok} (h : PS w P T v l en 0 (-1)) (hE : EnvF lo w) (hP : lo ≤ P) (hT : T ≤ w.heap.size)
    (hl0 : headIs l kAny = false) (hl1 : headIs l kNot = false) (hl2 : headIs l kOpen = false) :
    Calls Tryd.prog 11 #[ptrP P, .int .i64 (20 - (d + 1 : Nat) : Int)] w (RFilterP w P T en (d + 1) l) := by
  have hi := is_no h hl0
  have HI := Lib.hid hi; have H := Lib.hid h; have HE := Lib.hid hE
  obtain ⟨a, ha⟩ : ∃ a : Int, a = 20 - (d + 1 : Nat) := ⟨_, rfl⟩
  rw [← ha]
  have ha2 : ¬ 19 < a := by omega
  obtain ⟨y0, y1, y2, y3, y4, z0, z1, z2, z3, z4⟩ := block5 h.blk
  obtain ⟨fb, fo, fc, hf1, hf2, hf3⟩ := hE.rf
  have HF1 := Lib.hid hf1; have HF3 := Lib.hid hf3
  have hglo := hE.glo
  clear h hi hE ha hf1 hf3
  go_enter Tryd.func11, Tryd.ntmps11
  go_wp2_with (first
    | (go_at_call 17; refine (is_no hp3 hl2).mono ?_; rintro r w4 ⟨rfl, hg4, v4, hp4⟩; have hg34 := grownBy_trans hg2 (grownBy_trans hg3 hg4); have hq1 := hg34.cell HF1.out (by simp; omega))
    | (go_at_call 17; refine (is_no hp2 hl1).mono ?_; rintro r w3 ⟨rfl, hg3, v3, hp3⟩)
    | (go_at_call 17; refine HI.out.mono ?_; rintro r w2 ⟨rfl, hg2, v2, hp2⟩))
  have HG34 := Lib.hid hg34; have HP4 := Lib.hid hp4
  clear hg34 hp4 hp3 hp2 hg2 hg3 hg4 hq1 y0 y1 y2 y3 y4 z0 z1 z2 z3 z4
  go_loopg [84] 5 (fun g iv W => w.grownBy W (some P) ∧ ∃ (i : Nat) (v' : Value), i + g = 5 ∧ iv = .int .i64 i ∧ PS W P T v' l en 0 (-1) ∧ ∀ j, j < i → headIs l (kField j) = false)
  case atStart => exact ⟨HG34.out, 0, v4, by omega, rfl, HP4.out, fun j h => by omega⟩
  case round =>
    obtain ⟨hg, i, v5, hi, rfl, hp, hno⟩ := hrel
    have HG := Lib.hid hg; have HNO := Lib.hid hno; have HPP := Lib.hid hp
    by_cases hlt : i < 5
    · obtain ⟨n, rfl⟩ : ∃ n, gk = n + 1 := ⟨gk - 1, by omega⟩
      have hfi := hg.cell (HF3.out i hlt) (by simp; omega)
      by_cases hh : headIs l (kField i) = true
--HIT--
      · have HH := Lib.hid hh
        have hyes := is_yes hp hh
        have HY := Lib.hid hyes
        have hPl : P < wr.heap.size := hp.lt
        have hgs := hg.size
        have hone : one (d + 1) l = tst i l.tail := by
          unfold one
          rw [if_neg (by rw [hl0]; simp), if_neg (by rw [hl1]; simp), if_neg (by rw [hl2]; simp), fieldAt_eq 5 0 i (fun j _ h => hno j h) hh (by omega) (by omega), if_pos hlt]
        have HONE := Lib.hid hone
        clear hg hno hp hh hyes hone
        have hk1 : w.heap.size ≤ wr.heap.size := hgs
        by_cases hb0 : headIs l.tail kHas = true
        · have hb : headIs l.tail kHas = true := by simpa using hb0
          obtain ⟨rest, hrest⟩ : ∃ rest, rest = l.tail.tail := ⟨_, rfl⟩
          have htst : tst i l.tail = tstGo i true rest := by rw [hrest]; unfold tst; rw [hb]; rfl
          have HR := Lib.hid hrest; have HT := Lib.hid htst
          clear hrest htst hb0
          cases rest with
          | nil =>
            as_aux_lemma =>
            go_wp2_with (first
              | (go_at_call 12; refine (fail_any hp8n 3).mono ?_; rintro r w9 ⟨⟨rv, rfl⟩, hg9, hp9⟩)
              | (go_at_call 17; refine (is_yes (hp6.grown (World.grownBy_alloc _ _ none)) hb).mono ?_; rintro r w7 ⟨rfl, hg7, v7, hp7⟩; have hF7 := (hg7.block w6.heap.size (by simp) (by simp; omega)).trans (heap_alloc_new _ _); obtain ⟨x0, _, _, _, _, x5, _, _, _, _⟩ := block5 hF7; have hs7 := hg7.size; have hp8 := hp7.off (grownBy_setCell (grownBy_refl _ _) 0 (.string kHas)) (F := w6.heap.size) (by omega) (by omega); have hF8 := block5_set (x' := .string kHas) hF7; obtain ⟨yy0, yy1, yy2, yy3, yy4, zz0, zz1, zz2, zz3, zz4⟩ := block5 hp7.blk; have HG8 := Lib.hid (grown_set 0 (.string kHas) (grownBy_trans (grownBy_trans (grownBy_trans HG.out hg6) (World.grownBy_alloc _ _ _)) hg7) hwF); obtain ⟨u0, u1, u2, u3, u4, u5, u6, u7, u8, u9⟩ := block5 hF8; have u0l : (w7.setCell ⟨w6.heap.size, 0, none⟩ (.string kHas)).cell? ⟨w6.heap.size, 0, none⟩ = some (.string ⟨#[104, 97, 115]⟩) := u0; clear u0; obtain ⟨y0, y1, y2, y3, y4, z0, z1, z2, z3, z4⟩ := block5 hp8.blk; have HP8 := Lib.hid hp8; have HF8 := Lib.hid hF8; clear hp8 hF8 hF7; have hp8n := HP8.out; rw [← HR.out] at hp8n; obtain ⟨an, cn, rfl, _, _, _⟩ := hp8n.tok)
              | (go_at_call 17; refine HY.out.mono ?_; rintro r w6 ⟨rfl, hg6, v6, hp6⟩; have hs6 := hg6.size; have hne : P ≠ w6.heap.size := (by omega); have hne' : w6.heap.size ≠ P := (by omega); have hTF : T ≤ w6.heap.size := (by omega); have hwF : w.heap.size ≤ w6.heap.size := (by omega)))
            go_ret
            refine ⟨some ⟨w6.heap.size, 0, none⟩, rfl, grownBy_trans HG8.out hg9, ?_⟩
            rw [HONE.out, HT.out]
            exact ⟨_, _, hp9⟩
          | cons t q =>
            obtain ⟨ix, hix⟩ : ∃ ix, ix = Lib.index t.1.data.toList dots := ⟨_, rfl⟩
            have HIX := Lib.hid hix
            have hge := Lib.index_ge t.1.data.toList dots
            rw [← hix] at hge
            clear hix
            by_cases hx : ix < 0
            · have htst : tstGo i true (t :: q) = if numE t.1.data.toList ≠ 0 then .err (numE t.1.data.toList) (t :: q) else .ok (if true then .has i (numV t.1.data.toList) else .test i (numV t.1.data.toList) (numV t.1.data.toList)) q := by
                have := HIX.out
                simp only [tstGo]
                rw [if_pos (by omega)]
              obtain ⟨e1, he1⟩ : ∃ e1, e1 = numE t.1.data.toList := ⟨_, rfl⟩
              obtain ⟨n1, hn1⟩ : ∃ n1, n1 = numV t.1.data.toList := ⟨_, rfl⟩
              rw [← he1, ← hn1] at htst
              have hok : e1 = 0 → NumOk n1 := fun h => by rw [hn1]; exact numE_ok (he1 ▸ h)
              have HE1 := Lib.hid he1; have HN1 := Lib.hid hn1; have HTS := Lib.hid htst; have HOK := Lib.hid hok
              clear he1 hn1 htst hok
              by_cases hz : e1 = 0
              · subst hz
                as_aux_lemma =>
                go_wp2_with (first
              | (go_at_call 19; refine (field_any HP8N.out HE8.out.n t.1 (by omega)).mono ?_; rintro r w9 ⟨hr9, hg9, hp9⟩; rw [← HN1.out] at hr9; subst hr9; rw [if_pos rfl, if_pos rfl, ← HE1.out, if_pos rfl] at hp9; have hF9 := (hg9.block w6.heap.size (by have := HF8.out; exact (Array.getElem?_eq_some_iff.1 this).1) (by simp; omega)).trans HF8.out; have hF10 := block5_set2 (x' := .int .i64 n1) hF9; have hF11 := block5_set3 (x' := .int .i64 n1) hF10; obtain ⟨s0, s1, s2, s3, s4, s5, s6, s7, s8, s9⟩ := block5 hF9; obtain ⟨r0, r1, r2, r3, r4, r5, r6, r7, r8, r9⟩ := block5 hF10; have hp10 := hp9.off (grownBy_setCell (grownBy_refl _ _) 2 (.int .i64 n1)) (F := w6.heap.size) hTF hne'; have hp11 := hp10.off (grownBy_setCell (grownBy_refl _ _) 3 (.int .i64 n1)) (F := w6.heap.size) hTF hne'; obtain ⟨q0, q1, q2, q3, q4, q5, q6, q7, q8, q9⟩ := block5 hp9.blk; have HG9 := Lib.hid (grown_set 3 (.int .i64 n1) (grown_set 2 (.int .i64 n1) (grownBy_trans HG8.out hg9) hwF) hwF); have HF11 := Lib.hid hF11; have HP11 := Lib.hid hp11; clear hF9 hF10 hF11 hp9 hp10 hp11)
              | (go_at_call 18; refine (Tryd.strings_Index t.1 _ mm _ (by omega) hmm).mono ?_; rintro r w8 ⟨hr8, rfl⟩; have hr8' : r = .returned (.int .i64 ix) := (by rw [hr8, HIX.out]; rfl); subst hr8'; clear hr8)
              | (go_at_call 17; refine (is_yes (hp6.grown (World.grownBy_alloc _ _ none)) hb).mono ?_; rintro r w7 ⟨rfl, hg7, v7, hp7⟩; have hF7 := (hg7.block w6.heap.size (by simp) (by simp; omega)).trans (heap_alloc_new _ _); obtain ⟨x0, _, _, _, _, x5, _, _, _, _⟩ := block5 hF7; have hs7 := hg7.size; have hp8 := hp7.off (grownBy_setCell (grownBy_refl _ _) 0 (.string kHas)) (F := w6.heap.size) (by omega) (by omega); have hF8 := block5_set (x' := .string kHas) hF7; obtain ⟨yy0, yy1, yy2, yy3, yy4, zz0, zz1, zz2, zz3, zz4⟩ := block5 hp7.blk; have HG8 := Lib.hid (grown_set 0 (.string kHas) (grownBy_trans (grownBy_trans (grownBy_trans HG.out hg6) (World.grownBy_alloc _ _ _)) hg7) hwF); obtain ⟨u0, u1, u2, u3, u4, u5, u6, u7, u8, u9⟩ := block5 hF8; have u0l : (w7.setCell ⟨w6.heap.size, 0, none⟩ (.string kHas)).cell? ⟨w6.heap.size, 0, none⟩ = some (.string ⟨#[104, 97, 115]⟩) := u0; clear u0; obtain ⟨y0, y1, y2, y3, y4, z0, z1, z2, z3, z4⟩ := block5 hp8.blk; have HP8 := Lib.hid hp8; have HF8 := Lib.hid hF8; clear hp8 hF8 hF7; have hp8n := HP8.out; rw [← HR.out] at hp8n; obtain ⟨an, cn, rfl, t1, t2, t3⟩ := hp8n.tok; have hll : (t :: q).length = q.length + 1 := rfl; rw [hll] at t1 y0 yy0; obtain ⟨tb, to, rfl, htb, htT, htc⟩ := t3 (by simp); obtain ⟨tc1, tc2⟩ := htc 0 (by simp); simp only [Nat.zero_mul, Nat.add_zero, List.getElem_cons_zero] at tc1 tc2; rw [size_alloc] at hs7; have tbl : tb ≠ w6.heap.size := (by omega); have hbk := (grownBy_setCell (b := w6.heap.size) (grownBy_refl w7 _) 0 (.string kHas)).block tb (by omega) (by simpa using tbl); have tw1 := (World.cell?_of_block (a := ⟨tb, to, none⟩) hbk).symm.trans tc1; have tw2 := (World.cell?_of_block (a := ⟨tb, to + 1, none⟩) hbk).symm.trans tc2; clear hbk; have HTC := Lib.hid htc; clear htc t3; have hsz8 := (hp8n.wf t (by simp)).1; have hE8 := HE.out.grown HG8.out hP; obtain ⟨mm, hmm⟩ := hE8.maxl; have HP8N := Lib.hid hp8n; have HE8 := Lib.hid hE8; clear hp8n hE8)
              | (go_at_call 17; refine HY.out.mono ?_; rintro r w6 ⟨rfl, hg6, v6, hp6⟩; have hs6 := hg6.size; have hne : P ≠ w6.heap.size := (by omega); have hne' : w6.heap.size ≠ P := (by omega); have hTF : T ≤ w6.heap.size := (by omega); have hwF : w.heap.size ≤ w6.heap.size := (by omega)))
                · rename_i hc1
                  have hr : q = [] := by
                    have : q.length = 0 := by omega
                    simpa using this
                  subst hr
                  go_ret
                  refine ⟨some ⟨w6.heap.size, 0, none⟩, rfl, grownBy_setCell HG9.out 0 _, ?_⟩
                  rw [HONE.out, HT.out, HTS.out, if_neg (by simp)]
                  refine ⟨_, w6.heap.size, rfl, HP11.out.tail_last, ?_⟩
                  have hF12 := ((grownBy_setCell (b := P) (grownBy_refl _ _) 0 (.slice (some ⟨tb, to, none⟩) 0 0)).block w6.heap.size (Array.getElem?_eq_some_iff.1 HF11.out).1 (by simpa using hne')).trans HF11.out
                  show RAst _ _ _ (.has i n1)
                  unfold RAst
                  exact ⟨hwF, hlt, HOK.out trivial, hF12⟩
                · go_ret
                  refine ⟨some ⟨w6.heap.size, 0, none⟩, rfl, grownBy_setCell HG9.out 0 _, ?_⟩
                  rw [HONE.out, HT.out, HTS.out, if_neg (by simp)]
                  refine ⟨_, w6.heap.size, rfl, HP11.out.tail_next, ?_⟩
                  have hF12 := ((grownBy_setCell (b := P) (grownBy_refl _ _) 0 (.slice (some ⟨tb, to + 2, none⟩) q.length (cn - 1))).block w6.heap.size (Array.getElem?_eq_some_iff.1 HF11.out).1 (by simpa using hne')).trans HF11.out
                  show RAst _ _ _ (.has i n1)
                  unfold RAst
                  exact ⟨hwF, hlt, HOK.out trivial, hF12⟩
              ·
                as_aux_lemma =>
                go_wp2_with (first
              | (go_at_call 19; refine (field_any HP8N.out HE8.out.n t.1 (by omega)).mono ?_; rintro r w9 ⟨hr9, hg9, hp9⟩; rw [← HN1.out] at hr9; subst hr9; rw [if_pos rfl, if_pos rfl, ← HE1.out, if_neg hz] at hp9; have hF9 := (hg9.block w6.heap.size (by have := HF8.out; exact (Array.getElem?_eq_some_iff.1 this).1) (by simp; omega)).trans HF8.out; have hF10 := block5_set2 (x' := .int .i64 n1) hF9; have hF11 := block5_set3 (x' := .int .i64 n1) hF10; obtain ⟨s0, s1, s2, s3, s4, s5, s6, s7, s8, s9⟩ := block5 hF9; obtain ⟨r0, r1, r2, r3, r4, r5, r6, r7, r8, r9⟩ := block5 hF10; have hp10 := hp9.off (grownBy_setCell (grownBy_refl _ _) 2 (.int .i64 n1)) (F := w6.heap.size) hTF hne'; have hp11 := hp10.off (grownBy_setCell (grownBy_refl _ _) 3 (.int .i64 n1)) (F := w6.heap.size) hTF hne'; obtain ⟨q0, q1, q2, q3, q4, q5, q6, q7, q8, q9⟩ := block5 hp9.blk; have HG9 := Lib.hid (grown_set 3 (.int .i64 n1) (grown_set 2 (.int .i64 n1) (grownBy_trans HG8.out hg9) hwF) hwF); have HF11 := Lib.hid hF11; have HP11 := Lib.hid hp11; clear hF9 hF10 hF11 hp9 hp10 hp11)
              | (go_at_call 18; refine (Tryd.strings_Index t.1 _ mm _ (by omega) hmm).mono ?_; rintro r w8 ⟨hr8, rfl⟩; have hr8' : r = .returned (.int .i64 ix) := (by rw [hr8, HIX.out]; rfl); subst hr8'; clear hr8)
              | (go_at_call 17; refine (is_yes (hp6.grown (World.grownBy_alloc _ _ none)) hb).mono ?_; rintro r w7 ⟨rfl, hg7, v7, hp7⟩; have hF7 := (hg7.block w6.heap.size (by simp) (by simp; omega)).trans (heap_alloc_new _ _); obtain ⟨x0, _, _, _, _, x5, _, _, _, _⟩ := block5 hF7; have hs7 := hg7.size; have hp8 := hp7.off (grownBy_setCell (grownBy_refl _ _) 0 (.string kHas)) (F := w6.heap.size) (by omega) (by omega); have hF8 := block5_set (x' := .string kHas) hF7; obtain ⟨yy0, yy1, yy2, yy3, yy4, zz0, zz1, zz2, zz3, zz4⟩ := block5 hp7.blk; have HG8 := Lib.hid (grown_set 0 (.string kHas) (grownBy_trans (grownBy_trans (grownBy_trans HG.out hg6) (World.grownBy_alloc _ _ _)) hg7) hwF); obtain ⟨u0, u1, u2, u3, u4, u5, u6, u7, u8, u9⟩ := block5 hF8; have u0l : (w7.setCell ⟨w6.heap.size, 0, none⟩ (.string kHas)).cell? ⟨w6.heap.size, 0, none⟩ = some (.string ⟨#[104, 97, 115]⟩) := u0; clear u0; obtain ⟨y0, y1, y2, y3, y4, z0, z1, z2, z3, z4⟩ := block5 hp8.blk; have HP8 := Lib.hid hp8; have HF8 := Lib.hid hF8; clear hp8 hF8 hF7; have hp8n := HP8.out; rw [← HR.out] at hp8n; obtain ⟨an, cn, rfl, t1, t2, t3⟩ := hp8n.tok; have hll : (t :: q).length = q.length + 1 := rfl; rw [hll] at t1 y0 yy0; obtain ⟨tb, to, rfl, htb, htT, htc⟩ := t3 (by simp); obtain ⟨tc1, tc2⟩ := htc 0 (by simp); simp only [Nat.zero_mul, Nat.add_zero, List.getElem_cons_zero] at tc1 tc2; rw [size_alloc] at hs7; have tbl : tb ≠ w6.heap.size := (by omega); have hbk := (grownBy_setCell (b := w6.heap.size) (grownBy_refl w7 _) 0 (.string kHas)).block tb (by omega) (by simpa using tbl); have tw1 := (World.cell?_of_block (a := ⟨tb, to, none⟩) hbk).symm.trans tc1; have tw2 := (World.cell?_of_block (a := ⟨tb, to + 1, none⟩) hbk).symm.trans tc2; clear hbk; have HTC := Lib.hid htc; clear htc t3; have hsz8 := (hp8n.wf t (by simp)).1; have hE8 := HE.out.grown HG8.out hP; obtain ⟨mm, hmm⟩ := hE8.maxl; have HP8N := Lib.hid hp8n; have HE8 := Lib.hid hE8; clear hp8n hE8)
              | (go_at_call 17; refine HY.out.mono ?_; rintro r w6 ⟨rfl, hg6, v6, hp6⟩; have hs6 := hg6.size; have hne : P ≠ w6.heap.size := (by omega); have hne' : w6.heap.size ≠ P := (by omega); have hTF : T ≤ w6.heap.size := (by omega); have hwF : w.heap.size ≤ w6.heap.size := (by omega)))
                go_ret
                refine ⟨some ⟨w6.heap.size, 0, none⟩, rfl, HG9.out, ?_⟩
                rw [HONE.out, HT.out, HTS.out, if_pos hz]
                exact ⟨_, _, HP11.out⟩
            · have hge0 : 0 ≤ ix := by omega
              as_aux_lemma =>
              have htst : tstGo i true (t :: q) = .err 3 (t :: q) := by
                have := HIX.out
                simp only [tstGo]
                rw [if_neg (by omega), if_pos trivial]
              have HTS := Lib.hid htst
              clear htst
              go_wp2_with (first
              | (go_at_call 18; refine (Tryd.strings_Index t.1 _ mm _ (by omega) hmm).mono ?_; rintro r w8 ⟨hr8, rfl⟩; have hr8' : r = .returned (.int .i64 ix) := (by rw [hr8, HIX.out]; rfl); subst hr8'; clear hr8)
              | (go_at_call 12; refine (fail_any HP8N.out 3).mono ?_; rintro r w9 ⟨⟨rv, rfl⟩, hg9, hp9⟩; have hp9' : PS w9 P T _ (t :: q) en 3 (hereOf (t :: q) en) := hp9; obtain ⟨q0, q1, q2, q3, q4, q5, q6, q7, q8, q9⟩ := block5 hp9'.blk)
              | (go_at_call 17; refine (is_yes (hp6.grown (World.grownBy_alloc _ _ none)) hb).mono ?_; rintro r w7 ⟨rfl, hg7, v7, hp7⟩; have hF7 := (hg7.block w6.heap.size (by simp) (by simp; omega)).trans (heap_alloc_new _ _); obtain ⟨x0, _, _, _, _, x5, _, _, _, _⟩ := block5 hF7; have hs7 := hg7.size; have hp8 := hp7.off (grownBy_setCell (grownBy_refl _ _) 0 (.string kHas)) (F := w6.heap.size) (by omega) (by omega); have hF8 := block5_set (x' := .string kHas) hF7; obtain ⟨yy0, yy1, yy2, yy3, yy4, zz0, zz1, zz2, zz3, zz4⟩ := block5 hp7.blk; have HG8 := Lib.hid (grown_set 0 (.string kHas) (grownBy_trans (grownBy_trans (grownBy_trans HG.out hg6) (World.grownBy_alloc _ _ _)) hg7) hwF); obtain ⟨u0, u1, u2, u3, u4, u5, u6, u7, u8, u9⟩ := block5 hF8; have u0l : (w7.setCell ⟨w6.heap.size, 0, none⟩ (.string kHas)).cell? ⟨w6.heap.size, 0, none⟩ = some (.string ⟨#[104, 97, 115]⟩) := u0; clear u0; obtain ⟨y0, y1, y2, y3, y4, z0, z1, z2, z3, z4⟩ := block5 hp8.blk; have HP8 := Lib.hid hp8; have HF8 := Lib.hid hF8; clear hp8 hF8 hF7; have hp8n := HP8.out; rw [← HR.out] at hp8n; obtain ⟨an, cn, rfl, t1, t2, t3⟩ := hp8n.tok; have hll : (t :: q).length = q.length + 1 := rfl; rw [hll] at t1 y0 yy0; obtain ⟨tb, to, rfl, htb, htT, htc⟩ := t3 (by simp); obtain ⟨tc1, tc2⟩ := htc 0 (by simp); simp only [Nat.zero_mul, Nat.add_zero, List.getElem_cons_zero] at tc1 tc2; rw [size_alloc] at hs7; have tbl : tb ≠ w6.heap.size := (by omega); have hbk := (grownBy_setCell (b := w6.heap.size) (grownBy_refl w7 _) 0 (.string kHas)).block tb (by omega) (by simpa using tbl); have tw1 := (World.cell?_of_block (a := ⟨tb, to, none⟩) hbk).symm.trans tc1; have tw2 := (World.cell?_of_block (a := ⟨tb, to + 1, none⟩) hbk).symm.trans tc2; clear hbk; have HTC := Lib.hid htc; clear htc t3; have hsz8 := (hp8n.wf t (by simp)).1; have hE8 := HE.out.grown HG8.out hP; obtain ⟨mm, hmm⟩ := hE8.maxl; have HP8N := Lib.hid hp8n; have HE8 := Lib.hid hE8; clear hp8n hE8)
              | (go_at_call 17; refine HY.out.mono ?_; rintro r w6 ⟨rfl, hg6, v6, hp6⟩; have hs6 := hg6.size; have hne : P ≠ w6.heap.size := (by omega); have hne' : w6.heap.size ≠ P := (by omega); have hTF : T ≤ w6.heap.size := (by omega); have hwF : w.heap.size ≤ w6.heap.size := (by omega)))
              go_ret
              refine ⟨some ⟨w6.heap.size, 0, none⟩, rfl, grownBy_trans HG8.out hg9, ?_⟩
              rw [HONE.out, HT.out, HTS.out]
              exact ⟨_, _, hp9⟩
        · have hb : headIs l.tail kHas = false := by simpa using hb0
          obtain ⟨rest, hrest⟩ : ∃ rest, rest = l.tail := ⟨_, rfl⟩
          have htst : tst i l.tail = tstGo i false rest := by rw [hrest]; unfold tst; rw [hb]; rfl
          have HR := Lib.hid hrest; have HT := Lib.hid htst
          clear hrest htst hb0
          cases rest with
          | nil =>
            as_aux_lemma =>
            go_wp2_with (first
              | (go_at_call 12; refine (fail_any hp8n 3).mono ?_; rintro r w9 ⟨⟨rv, rfl⟩, hg9, hp9⟩)
              | (go_at_call 17; refine (is_no (hp6.grown (World.grownBy_alloc _ _ none)) hb).mono ?_; rintro r w7 ⟨rfl, hg7, v7, hp8⟩; have hF8 := (hg7.block w6.heap.size (by simp) (by simp; omega)).trans (heap_alloc_new _ _); have hs7 := hg7.size; have HG8 := Lib.hid (grownBy_trans (grownBy_trans (grownBy_trans HG.out hg6) (World.grownBy_alloc _ _ _)) hg7); obtain ⟨u0, u1, u2, u3, u4, u5, u6, u7, u8, u9⟩ := block5 hF8;  obtain ⟨y0, y1, y2, y3, y4, z0, z1, z2, z3, z4⟩ := block5 hp8.blk; have HP8 := Lib.hid hp8; have HF8 := Lib.hid hF8; clear hp8 hF8; have hp8n := HP8.out; rw [← HR.out] at hp8n; obtain ⟨an, cn, rfl, _, _, _⟩ := hp8n.tok)
              | (go_at_call 17; refine HY.out.mono ?_; rintro r w6 ⟨rfl, hg6, v6, hp6⟩; have hs6 := hg6.size; have hne : P ≠ w6.heap.size := (by omega); have hne' : w6.heap.size ≠ P := (by omega); have hTF : T ≤ w6.heap.size := (by omega); have hwF : w.heap.size ≤ w6.heap.size := (by omega)))
            go_ret
            refine ⟨some ⟨w6.heap.size, 0, none⟩, rfl, grownBy_trans HG8.out hg9, ?_⟩
            rw [HONE.out, HT.out]
            exact ⟨_, _, hp9⟩
          | cons t q =>
            obtain ⟨ix, hix⟩ : ∃ ix, ix = Lib.index t.1.data.toList dots := ⟨_, rfl⟩
            have HIX := Lib.hid hix
            have hge := Lib.index_ge t.1.data.toList dots
            rw [← hix] at hge
            clear hix
            by_cases hx : ix < 0
            · have htst : tstGo i false (t :: q) = if numE t.1.data.toList ≠ 0 then .err (numE t.1.data.toList) (t :: q) else .ok (if false then .has i (numV t.1.data.toList) else .test i (numV t.1.data.toList) (numV t.1.data.toList)) q := by
                have := HIX.out
                simp only [tstGo]
                rw [if_pos (by omega)]
              obtain ⟨e1, he1⟩ : ∃ e1, e1 = numE t.1.data.toList := ⟨_, rfl⟩
              obtain ⟨n1, hn1⟩ : ∃ n1, n1 = numV t.1.data.toList := ⟨_, rfl⟩
              rw [← he1, ← hn1] at htst
              have hok : e1 = 0 → NumOk n1 := fun h => by rw [hn1]; exact numE_ok (he1 ▸ h)
              have HE1 := Lib.hid he1; have HN1 := Lib.hid hn1; have HTS := Lib.hid htst; have HOK := Lib.hid hok
              clear he1 hn1 htst hok
              by_cases hz : e1 = 0
              · subst hz
                as_aux_lemma =>
                go_wp2_with (first
              | (go_at_call 19; refine (field_any HP8N.out HE8.out.n t.1 (by omega)).mono ?_; rintro r w9 ⟨hr9, hg9, hp9⟩; rw [← HN1.out] at hr9; subst hr9; rw [if_pos rfl, if_pos rfl, ← HE1.out, if_pos rfl] at hp9; have hF9 := (hg9.block w6.heap.size (by have := HF8.out; exact (Array.getElem?_eq_some_iff.1 this).1) (by simp; omega)).trans HF8.out; have hF10 := block5_set2 (x' := .int .i64 n1) hF9; have hF11 := block5_set3 (x' := .int .i64 n1) hF10; obtain ⟨s0, s1, s2, s3, s4, s5, s6, s7, s8, s9⟩ := block5 hF9; obtain ⟨r0, r1, r2, r3, r4, r5, r6, r7, r8, r9⟩ := block5 hF10; have hp10 := hp9.off (grownBy_setCell (grownBy_refl _ _) 2 (.int .i64 n1)) (F := w6.heap.size) hTF hne'; have hp11 := hp10.off (grownBy_setCell (grownBy_refl _ _) 3 (.int .i64 n1)) (F := w6.heap.size) hTF hne'; obtain ⟨q0, q1, q2, q3, q4, q5, q6, q7, q8, q9⟩ := block5 hp9.blk; have HG9 := Lib.hid (grown_set 3 (.int .i64 n1) (grown_set 2 (.int .i64 n1) (grownBy_trans HG8.out hg9) hwF) hwF); have HF11 := Lib.hid hF11; have HP11 := Lib.hid hp11; clear hF9 hF10 hF11 hp9 hp10 hp11)
              | (go_at_call 18; refine (Tryd.strings_Index t.1 _ mm _ (by omega) hmm).mono ?_; rintro r w8 ⟨hr8, rfl⟩; have hr8' : r = .returned (.int .i64 ix) := (by rw [hr8, HIX.out]; rfl); subst hr8'; clear hr8)
              | (go_at_call 17; refine (is_no (hp6.grown (World.grownBy_alloc _ _ none)) hb).mono ?_; rintro r w7 ⟨rfl, hg7, v7, hp8⟩; have hF8 := (hg7.block w6.heap.size (by simp) (by simp; omega)).trans (heap_alloc_new _ _); have hs7 := hg7.size; have HG8 := Lib.hid (grownBy_trans (grownBy_trans (grownBy_trans HG.out hg6) (World.grownBy_alloc _ _ _)) hg7); obtain ⟨u0, u1, u2, u3, u4, u5, u6, u7, u8, u9⟩ := block5 hF8;  obtain ⟨y0, y1, y2, y3, y4, z0, z1, z2, z3, z4⟩ := block5 hp8.blk; have HP8 := Lib.hid hp8; have HF8 := Lib.hid hF8; clear hp8 hF8; have hp8n := HP8.out; rw [← HR.out] at hp8n; obtain ⟨an, cn, rfl, t1, t2, t3⟩ := hp8n.tok; have hll : (t :: q).length = q.length + 1 := rfl; rw [hll] at t1 y0; obtain ⟨tb, to, rfl, htb, htT, htc⟩ := t3 (by simp); obtain ⟨tc1, tc2⟩ := htc 0 (by simp); simp only [Nat.zero_mul, Nat.add_zero, List.getElem_cons_zero] at tc1 tc2;  have HTC := Lib.hid htc; clear htc t3; have hsz8 := (hp8n.wf t (by simp)).1; have hE8 := HE.out.grown HG8.out hP; obtain ⟨mm, hmm⟩ := hE8.maxl; have HP8N := Lib.hid hp8n; have HE8 := Lib.hid hE8; clear hp8n hE8)
              | (go_at_call 17; refine HY.out.mono ?_; rintro r w6 ⟨rfl, hg6, v6, hp6⟩; have hs6 := hg6.size; have hne : P ≠ w6.heap.size := (by omega); have hne' : w6.heap.size ≠ P := (by omega); have hTF : T ≤ w6.heap.size := (by omega); have hwF : w.heap.size ≤ w6.heap.size := (by omega)))
                · rename_i hc1
                  have hr : q = [] := by
                    have : q.length = 0 := by omega
                    simpa using this
                  subst hr
                  go_ret
                  refine ⟨some ⟨w6.heap.size, 0, none⟩, rfl, grownBy_setCell HG9.out 0 _, ?_⟩
                  rw [HONE.out, HT.out, HTS.out, if_neg (by simp)]
                  refine ⟨_, w6.heap.size, rfl, HP11.out.tail_last, ?_⟩
                  have hF12 := ((grownBy_setCell (b := P) (grownBy_refl _ _) 0 (.slice (some ⟨tb, to, none⟩) 0 0)).block w6.heap.size (Array.getElem?_eq_some_iff.1 HF11.out).1 (by simpa using hne')).trans HF11.out
                  show RAst _ _ _ (.test i n1 n1)
                  unfold RAst
                  exact ⟨hwF, hlt, HOK.out trivial, HOK.out trivial, hF12⟩
                · go_ret
                  refine ⟨some ⟨w6.heap.size, 0, none⟩, rfl, grownBy_setCell HG9.out 0 _, ?_⟩
                  rw [HONE.out, HT.out, HTS.out, if_neg (by simp)]
                  refine ⟨_, w6.heap.size, rfl, HP11.out.tail_next, ?_⟩
                  have hF12 := ((grownBy_setCell (b := P) (grownBy_refl _ _) 0 (.slice (some ⟨tb, to + 2, none⟩) q.length (cn - 1))).block w6.heap.size (Array.getElem?_eq_some_iff.1 HF11.out).1 (by simpa using hne')).trans HF11.out
                  show RAst _ _ _ (.test i n1 n1)
                  unfold RAst
                  exact ⟨hwF, hlt, HOK.out trivial, HOK.out trivial, hF12⟩
              ·
                as_aux_lemma =>
                go_wp2_with (first
              | (go_at_call 19; refine (field_any HP8N.out HE8.out.n t.1 (by omega)).mono ?_; rintro r w9 ⟨hr9, hg9, hp9⟩; rw [← HN1.out] at hr9; subst hr9; rw [if_pos rfl, if_pos rfl, ← HE1.out, if_neg hz] at hp9; have hF9 := (hg9.block w6.heap.size (by have := HF8.out; exact (Array.getElem?_eq_some_iff.1 this).1) (by simp; omega)).trans HF8.out; have hF10 := block5_set2 (x' := .int .i64 n1) hF9; have hF11 := block5_set3 (x' := .int .i64 n1) hF10; obtain ⟨s0, s1, s2, s3, s4, s5, s6, s7, s8, s9⟩ := block5 hF9; obtain ⟨r0, r1, r2, r3, r4, r5, r6, r7, r8, r9⟩ := block5 hF10; have hp10 := hp9.off (grownBy_setCell (grownBy_refl _ _) 2 (.int .i64 n1)) (F := w6.heap.size) hTF hne'; have hp11 := hp10.off (grownBy_setCell (grownBy_refl _ _) 3 (.int .i64 n1)) (F := w6.heap.size) hTF hne'; obtain ⟨q0, q1, q2, q3, q4, q5, q6, q7, q8, q9⟩ := block5 hp9.blk; have HG9 := Lib.hid (grown_set 3 (.int .i64 n1) (grown_set 2 (.int .i64 n1) (grownBy_trans HG8.out hg9) hwF) hwF); have HF11 := Lib.hid hF11; have HP11 := Lib.hid hp11; clear hF9 hF10 hF11 hp9 hp10 hp11)
              | (go_at_call 18; refine (Tryd.strings_Index t.1 _ mm _ (by omega) hmm).mono ?_; rintro r w8 ⟨hr8, rfl⟩; have hr8' : r = .returned (.int .i64 ix) := (by rw [hr8, HIX.out]; rfl); subst hr8'; clear hr8)
              | (go_at_call 17; refine (is_no (hp6.grown (World.grownBy_alloc _ _ none)) hb).mono ?_; rintro r w7 ⟨rfl, hg7, v7, hp8⟩; have hF8 := (hg7.block w6.heap.size (by simp) (by simp; omega)).trans (heap_alloc_new _ _); have hs7 := hg7.size; have HG8 := Lib.hid (grownBy_trans (grownBy_trans (grownBy_trans HG.out hg6) (World.grownBy_alloc _ _ _)) hg7); obtain ⟨u0, u1, u2, u3, u4, u5, u6, u7, u8, u9⟩ := block5 hF8;  obtain ⟨y0, y1, y2, y3, y4, z0, z1, z2, z3, z4⟩ := block5 hp8.blk; have HP8 := Lib.hid hp8; have HF8 := Lib.hid hF8; clear hp8 hF8; have hp8n := HP8.out; rw [← HR.out] at hp8n; obtain ⟨an, cn, rfl, t1, t2, t3⟩ := hp8n.tok; have hll : (t :: q).length = q.length + 1 := rfl; rw [hll] at t1 y0; obtain ⟨tb, to, rfl, htb, htT, htc⟩ := t3 (by simp); obtain ⟨tc1, tc2⟩ := htc 0 (by simp); simp only [Nat.zero_mul, Nat.add_zero, List.getElem_cons_zero] at tc1 tc2;  have HTC := Lib.hid htc; clear htc t3; have hsz8 := (hp8n.wf t (by simp)).1; have hE8 := HE.out.grown HG8.out hP; obtain ⟨mm, hmm⟩ := hE8.maxl; have HP8N := Lib.hid hp8n; have HE8 := Lib.hid hE8; clear hp8n hE8)
              | (go_at_call 17; refine HY.out.mono ?_; rintro r w6 ⟨rfl, hg6, v6, hp6⟩; have hs6 := hg6.size; have hne : P ≠ w6.heap.size := (by omega); have hne' : w6.heap.size ≠ P := (by omega); have hTF : T ≤ w6.heap.size := (by omega); have hwF : w.heap.size ≤ w6.heap.size := (by omega)))
                go_ret
                refine ⟨some ⟨w6.heap.size, 0, none⟩, rfl, HG9.out, ?_⟩
                rw [HONE.out, HT.out, HTS.out, if_pos hz]
                exact ⟨_, _, HP11.out⟩
            · have hge0 : 0 ≤ ix := by omega
              have hroom := Lib.index_room t.1.data.toList dots (by rw [← HIX.out]; exact hge0)
              rw [← HIX.out, show (dots.length : Int) = 2 from rfl, show t.1.data.toList.length = t.1.size from by simp] at hroom
              obtain ⟨e1, he1⟩ : ∃ e1, e1 = numE (t.1.extract 0 ix.toNat).data.toList := ⟨_, rfl⟩
              obtain ⟨n1, hn1⟩ : ∃ n1, n1 = numV (t.1.extract 0 ix.toNat).data.toList := ⟨_, rfl⟩
              have HE1 := Lib.hid he1; have HN1 := Lib.hid hn1
              clear he1 hn1
              obtain ⟨e2, he2⟩ : ∃ e2, e2 = numE (t.1.extract (ix + 2).toNat t.1.size).data.toList := ⟨_, rfl⟩
              obtain ⟨n2, hn2⟩ : ∃ n2, n2 = numV (t.1.extract (ix + 2).toNat t.1.size).data.toList := ⟨_, rfl⟩
              obtain ⟨fe, hfe⟩ : ∃ fe, fe = if e1 = 0 then e2 else e1 := ⟨_, rfl⟩
              obtain ⟨fp, hfp⟩ : ∃ fp : Int, fp = if fe = 0 then (-1 : Int) else (hereOf (t :: q) en : Int) := ⟨_, rfl⟩
              have hpp : (if e1 = 0 then (if e2 = 0 then (if e1 = 0 then (-1 : Int) else hereOf (t :: q) en) else hereOf (t :: q) en) else (if e1 = 0 then (-1 : Int) else hereOf (t :: q) en)) = fp := by
                rw [hfp, hfe]
                by_cases h1 : e1 = 0 <;> by_cases h2 : e2 = 0 <;> simp [h1, h2]
              have htst : tstGo i false (t :: q) = if fe ≠ 0 then .err fe (t :: q) else if n2 < n1 then .err 10 (t :: q) else .ok (.test i n1 n2) q :=
                tstGo_cut HIX.out hge0 HE1.out he2 HN1.out hn2 hfe
              have hok : fe = 0 → NumOk n1 ∧ NumOk n2 := fun hz => num_both HE1.out he2 HN1.out hn2 hfe hz
              have HPP := Lib.hid hpp; have HFEE := Lib.hid hfe.symm; have HE2 := Lib.hid he2; have HN2 := Lib.hid hn2; have HFP := Lib.hid hfp; have HTS := Lib.hid htst; have HOK := Lib.hid hok
              clear hpp hfe he2 hn2 hfp htst hok
              by_cases hz : fe = 0
              · subst hz
                obtain rfl : fp = -1 := by rw [HFP.out, if_pos rfl]
                by_cases hlt2 : n2 < n1
                ·
                  as_aux_lemma =>
                  go_wp2_with (first
              | (go_at_call 19; refine (field_any HP10.out HE10.out.n (t.1.extract (ix + 2).toNat t.1.size) (by simp; omega)).mono ?_; rintro r w11 ⟨hr11, hg11, hp11⟩; rw [← HN2.out] at hr11; subst hr11; rw [← HE2.out, HFEE.out, HPP.out] at hp11; have hF11 := (hg11.block w6.heap.size (by have := HF10.out; exact (Array.getElem?_eq_some_iff.1 this).1) (by simp; omega)).trans HF10.out; have hF12 := block5_set3 (x' := .int .i64 n2) hF11; obtain ⟨i0, i1, i2, i3, i4, i5, i6, i7, i8, i9⟩ := block5 hF11; obtain ⟨j0, j1, j2, j3, j4, j5, j6, j7, j8, j9⟩ := block5 hF12; have hp12 := hp11.off (grownBy_setCell (grownBy_refl _ _) 3 (.int .i64 n2)) (F := w6.heap.size) hTF hne'; obtain ⟨k0, k1, k2, k3, k4, k5, k6, k7, k8, k9⟩ := block5 hp11.blk; have HG12 := Lib.hid (grown_set 3 (.int .i64 n2) (grownBy_trans HG10.out hg11) hwF); have HF12 := Lib.hid hF12; have HP12 := Lib.hid hp12; clear hF11 hF12 hp11 hp12)
              | (go_at_call 19; refine (field_any HP8N.out HE8.out.n (t.1.extract 0 ix.toNat) (by simp; omega)).mono ?_; rintro r w9 ⟨hr9, hg9, hp9⟩; rw [← HN1.out] at hr9; subst hr9; rw [if_pos rfl, if_pos rfl, ← HE1.out] at hp9; have hF9 := (hg9.block w6.heap.size (by have := HF8.out; exact (Array.getElem?_eq_some_iff.1 this).1) (by simp; omega)).trans HF8.out; have hF10 := block5_set2 (x' := .int .i64 n1) hF9; obtain ⟨s0, s1, s2, s3, s4, s5, s6, s7, s8, s9⟩ := block5 hF9; obtain ⟨r0, r1, r2, r3, r4, r5, r6, r7, r8, r9⟩ := block5 hF10; have hp10 := hp9.off (grownBy_setCell (grownBy_refl _ _) 2 (.int .i64 n1)) (F := w6.heap.size) hTF hne'; have HG10 := Lib.hid (grown_set 2 (.int .i64 n1) (grownBy_trans HG8.out hg9) hwF); have HE10 := Lib.hid (HE.out.grown HG10.out hP); have HF10 := Lib.hid hF10; have HP10 := Lib.hid hp10; clear hF9 hF10 hp9 hp10)
              | (go_at_call 18; refine (Tryd.strings_Index t.1 _ mm _ (by omega) hmm).mono ?_; rintro r w8 ⟨hr8, rfl⟩; have hr8' : r = .returned (.int .i64 ix) := (by rw [hr8, HIX.out]; rfl); subst hr8'; clear hr8)
              | (go_at_call 17; refine (is_no (hp6.grown (World.grownBy_alloc _ _ none)) hb).mono ?_; rintro r w7 ⟨rfl, hg7, v7, hp8⟩; have hF8 := (hg7.block w6.heap.size (by simp) (by simp; omega)).trans (heap_alloc_new _ _); have hs7 := hg7.size; have HG8 := Lib.hid (grownBy_trans (grownBy_trans (grownBy_trans HG.out hg6) (World.grownBy_alloc _ _ _)) hg7); obtain ⟨u0, u1, u2, u3, u4, u5, u6, u7, u8, u9⟩ := block5 hF8;  obtain ⟨y0, y1, y2, y3, y4, z0, z1, z2, z3, z4⟩ := block5 hp8.blk; have HP8 := Lib.hid hp8; have HF8 := Lib.hid hF8; clear hp8 hF8; have hp8n := HP8.out; rw [← HR.out] at hp8n; obtain ⟨an, cn, rfl, t1, t2, t3⟩ := hp8n.tok; have hll : (t :: q).length = q.length + 1 := rfl; rw [hll] at t1 y0; obtain ⟨tb, to, rfl, htb, htT, htc⟩ := t3 (by simp); obtain ⟨tc1, tc2⟩ := htc 0 (by simp); simp only [Nat.zero_mul, Nat.add_zero, List.getElem_cons_zero] at tc1 tc2;  have HTC := Lib.hid htc; clear htc t3; have hsz8 := (hp8n.wf t (by simp)).1; have hE8 := HE.out.grown HG8.out hP; obtain ⟨mm, hmm⟩ := hE8.maxl; have HP8N := Lib.hid hp8n; have HE8 := Lib.hid hE8; clear hp8n hE8)
              | (go_at_call 17; refine HY.out.mono ?_; rintro r w6 ⟨rfl, hg6, v6, hp6⟩; have hs6 := hg6.size; have hne : P ≠ w6.heap.size := (by omega); have hne' : w6.heap.size ≠ P := (by omega); have hTF : T ≤ w6.heap.size := (by omega); have hwF : w.heap.size ≤ w6.heap.size := (by omega)))
                  obtain ⟨m0, m1, m2, m3, m4, m5, m6, m7, m8, m9⟩ := block5 HP12.out.blk
                  go_quiet (fail)
                  have hdq : ∀ W : World, ∀ q, W.grownBy (W.drewN q) none := fun W q => ⟨rfl, rfl, rfl, Nat.le_refl _, fun _ _ _ => rfl⟩
                  have hdq2 : ∀ W : World, ∀ q, W.grownBy (W.drewN q) (some P) := fun W q => ⟨rfl, rfl, rfl, Nat.le_refl _, fun _ _ _ => rfl⟩
                  have HP13 := Lib.hid (HP12.out.grown (hdq _ nq)); have HDQ2 := Lib.hid hdq2
                  clear hdq hdq2
                  go_wp2_with (go_at_call 12; refine (fail_any HP13.out 10).mono ?_; rintro r w14 ⟨⟨rv, rfl⟩, hg14, hp14⟩; rw [if_pos rfl, if_pos rfl] at hp14; obtain ⟨p0, p1, p2, p3, p4, p5, p6, p7, p8, p9⟩ := block5 hp14.blk)
                  go_ret
                  refine ⟨some ⟨w6.heap.size, 0, none⟩, rfl, grownBy_trans (grownBy_trans HG12.out (HDQ2.out _ _)) hg14, ?_⟩
                  rw [HONE.out, HT.out, HTS.out, if_neg (by simp), if_pos hlt2]
                  exact ⟨_, _, hp14⟩
                · have hlt3 : n1 ≤ n2 := by omega
                  as_aux_lemma =>
                  go_wp2_with (first
              | (go_at_call 19; refine (field_any HP10.out HE10.out.n (t.1.extract (ix + 2).toNat t.1.size) (by simp; omega)).mono ?_; rintro r w11 ⟨hr11, hg11, hp11⟩; rw [← HN2.out] at hr11; subst hr11; rw [← HE2.out, HFEE.out, HPP.out] at hp11; have hF11 := (hg11.block w6.heap.size (by have := HF10.out; exact (Array.getElem?_eq_some_iff.1 this).1) (by simp; omega)).trans HF10.out; have hF12 := block5_set3 (x' := .int .i64 n2) hF11; obtain ⟨i0, i1, i2, i3, i4, i5, i6, i7, i8, i9⟩ := block5 hF11; obtain ⟨j0, j1, j2, j3, j4, j5, j6, j7, j8, j9⟩ := block5 hF12; have hp12 := hp11.off (grownBy_setCell (grownBy_refl _ _) 3 (.int .i64 n2)) (F := w6.heap.size) hTF hne'; obtain ⟨k0, k1, k2, k3, k4, k5, k6, k7, k8, k9⟩ := block5 hp11.blk; have HG12 := Lib.hid (grown_set 3 (.int .i64 n2) (grownBy_trans HG10.out hg11) hwF); have HF12 := Lib.hid hF12; have HP12 := Lib.hid hp12; clear hF11 hF12 hp11 hp12)
              | (go_at_call 19; refine (field_any HP8N.out HE8.out.n (t.1.extract 0 ix.toNat) (by simp; omega)).mono ?_; rintro r w9 ⟨hr9, hg9, hp9⟩; rw [← HN1.out] at hr9; subst hr9; rw [if_pos rfl, if_pos rfl, ← HE1.out] at hp9; have hF9 := (hg9.block w6.heap.size (by have := HF8.out; exact (Array.getElem?_eq_some_iff.1 this).1) (by simp; omega)).trans HF8.out; have hF10 := block5_set2 (x' := .int .i64 n1) hF9; obtain ⟨s0, s1, s2, s3, s4, s5, s6, s7, s8, s9⟩ := block5 hF9; obtain ⟨r0, r1, r2, r3, r4, r5, r6, r7, r8, r9⟩ := block5 hF10; have hp10 := hp9.off (grownBy_setCell (grownBy_refl _ _) 2 (.int .i64 n1)) (F := w6.heap.size) hTF hne'; have HG10 := Lib.hid (grown_set 2 (.int .i64 n1) (grownBy_trans HG8.out hg9) hwF); have HE10 := Lib.hid (HE.out.grown HG10.out hP); have HF10 := Lib.hid hF10; have HP10 := Lib.hid hp10; clear hF9 hF10 hp9 hp10)
              | (go_at_call 18; refine (Tryd.strings_Index t.1 _ mm _ (by omega) hmm).mono ?_; rintro r w8 ⟨hr8, rfl⟩; have hr8' : r = .returned (.int .i64 ix) := (by rw [hr8, HIX.out]; rfl); subst hr8'; clear hr8)
              | (go_at_call 17; refine (is_no (hp6.grown (World.grownBy_alloc _ _ none)) hb).mono ?_; rintro r w7 ⟨rfl, hg7, v7, hp8⟩; have hF8 := (hg7.block w6.heap.size (by simp) (by simp; omega)).trans (heap_alloc_new _ _); have hs7 := hg7.size; have HG8 := Lib.hid (grownBy_trans (grownBy_trans (grownBy_trans HG.out hg6) (World.grownBy_alloc _ _ _)) hg7); obtain ⟨u0, u1, u2, u3, u4, u5, u6, u7, u8, u9⟩ := block5 hF8;  obtain ⟨y0, y1, y2, y3, y4, z0, z1, z2, z3, z4⟩ := block5 hp8.blk; have HP8 := Lib.hid hp8; have HF8 := Lib.hid hF8; clear hp8 hF8; have hp8n := HP8.out; rw [← HR.out] at hp8n; obtain ⟨an, cn, rfl, t1, t2, t3⟩ := hp8n.tok; have hll : (t :: q).length = q.length + 1 := rfl; rw [hll] at t1 y0; obtain ⟨tb, to, rfl, htb, htT, htc⟩ := t3 (by simp); obtain ⟨tc1, tc2⟩ := htc 0 (by simp); simp only [Nat.zero_mul, Nat.add_zero, List.getElem_cons_zero] at tc1 tc2;  have HTC := Lib.hid htc; clear htc t3; have hsz8 := (hp8n.wf t (by simp)).1; have hE8 := HE.out.grown HG8.out hP; obtain ⟨mm, hmm⟩ := hE8.maxl; have HP8N := Lib.hid hp8n; have HE8 := Lib.hid hE8; clear hp8n hE8)
              | (go_at_call 17; refine HY.out.mono ?_; rintro r w6 ⟨rfl, hg6, v6, hp6⟩; have hs6 := hg6.size; have hne : P ≠ w6.heap.size := (by omega); have hne' : w6.heap.size ≠ P := (by omega); have hTF : T ≤ w6.heap.size := (by omega); have hwF : w.heap.size ≤ w6.heap.size := (by omega)))
                  obtain ⟨m0, m1, m2, m3, m4, m5, m6, m7, m8, m9⟩ := block5 HP12.out.blk
                  go_quiet (fail)
                  have hdq : ∀ W : World, ∀ q, W.grownBy (W.drewN q) none := fun W q => ⟨rfl, rfl, rfl, Nat.le_refl _, fun _ _ _ => rfl⟩
                  have hdq2 : ∀ W : World, ∀ q, W.grownBy (W.drewN q) (some P) := fun W q => ⟨rfl, rfl, rfl, Nat.le_refl _, fun _ _ _ => rfl⟩
                  have hf13 := (hdq _ nq).block w6.heap.size (Array.getElem?_eq_some_iff.1 HF12.out).1 (by simp)
                  have HP13 := Lib.hid (HP12.out.grown (hdq _ nq)); have HDQ2 := Lib.hid (grownBy_trans HG12.out (hdq2 _ nq)); have HF13 := Lib.hid (hf13.trans HF12.out)
                  clear hdq hdq2 hf13
                  go_wp2
                  · rename_i hc1
                    have hr : q = [] := by
                      have : q.length = 0 := by omega
                      simpa using this
                    subst hr
                    go_ret
                    refine ⟨some ⟨w6.heap.size, 0, none⟩, rfl, grownBy_setCell HDQ2.out 0 _, ?_⟩
                    rw [HONE.out, HT.out, HTS.out, if_neg (by simp), if_neg (by omega)]
                    refine ⟨_, w6.heap.size, rfl, HP13.out.tail_last, ?_⟩
                    have hF14 := ((grownBy_setCell (b := P) (grownBy_refl _ _) 0 (.slice (some ⟨tb, to, none⟩) 0 0)).block w6.heap.size (Array.getElem?_eq_some_iff.1 HF13.out).1 (by simpa using hne')).trans HF13.out
                    show RAst _ _ _ (.test i n1 n2)
                    unfold RAst
                    exact ⟨hwF, hlt, (HOK.out trivial).1, (HOK.out trivial).2, hF14⟩
                  · go_ret
                    refine ⟨some ⟨w6.heap.size, 0, none⟩, rfl, grownBy_setCell HDQ2.out 0 _, ?_⟩
                    rw [HONE.out, HT.out, HTS.out, if_neg (by simp), if_neg (by omega)]
                    refine ⟨_, w6.heap.size, rfl, HP13.out.tail_next, ?_⟩
                    have hF14 := ((grownBy_setCell (b := P) (grownBy_refl _ _) 0 (.slice (some ⟨tb, to + 2, none⟩) q.length (cn - 1))).block w6.heap.size (Array.getElem?_eq_some_iff.1 HF13.out).1 (by simpa using hne')).trans HF13.out
                    show RAst _ _ _ (.test i n1 n2)
                    unfold RAst
                    exact ⟨hwF, hlt, (HOK.out trivial).1, (HOK.out trivial).2, hF14⟩
              · by_cases hlt2 : n2 < n1
                ·
                  as_aux_lemma =>
                  go_wp2_with (first
              | (go_at_call 19; refine (field_any HP10.out HE10.out.n (t.1.extract (ix + 2).toNat t.1.size) (by simp; omega)).mono ?_; rintro r w11 ⟨hr11, hg11, hp11⟩; rw [← HN2.out] at hr11; subst hr11; rw [← HE2.out, HFEE.out, HPP.out] at hp11; have hF11 := (hg11.block w6.heap.size (by have := HF10.out; exact (Array.getElem?_eq_some_iff.1 this).1) (by simp; omega)).trans HF10.out; have hF12 := block5_set3 (x' := .int .i64 n2) hF11; obtain ⟨i0, i1, i2, i3, i4, i5, i6, i7, i8, i9⟩ := block5 hF11; obtain ⟨j0, j1, j2, j3, j4, j5, j6, j7, j8, j9⟩ := block5 hF12; have hp12 := hp11.off (grownBy_setCell (grownBy_refl _ _) 3 (.int .i64 n2)) (F := w6.heap.size) hTF hne'; obtain ⟨k0, k1, k2, k3, k4, k5, k6, k7, k8, k9⟩ := block5 hp11.blk; have HG12 := Lib.hid (grown_set 3 (.int .i64 n2) (grownBy_trans HG10.out hg11) hwF); have HF12 := Lib.hid hF12; have HP12 := Lib.hid hp12; clear hF11 hF12 hp11 hp12)
              | (go_at_call 19; refine (field_any HP8N.out HE8.out.n (t.1.extract 0 ix.toNat) (by simp; omega)).mono ?_; rintro r w9 ⟨hr9, hg9, hp9⟩; rw [← HN1.out] at hr9; subst hr9; rw [if_pos rfl, if_pos rfl, ← HE1.out] at hp9; have hF9 := (hg9.block w6.heap.size (by have := HF8.out; exact (Array.getElem?_eq_some_iff.1 this).1) (by simp; omega)).trans HF8.out; have hF10 := block5_set2 (x' := .int .i64 n1) hF9; obtain ⟨s0, s1, s2, s3, s4, s5, s6, s7, s8, s9⟩ := block5 hF9; obtain ⟨r0, r1, r2, r3, r4, r5, r6, r7, r8, r9⟩ := block5 hF10; have hp10 := hp9.off (grownBy_setCell (grownBy_refl _ _) 2 (.int .i64 n1)) (F := w6.heap.size) hTF hne'; have HG10 := Lib.hid (grown_set 2 (.int .i64 n1) (grownBy_trans HG8.out hg9) hwF); have HE10 := Lib.hid (HE.out.grown HG10.out hP); have HF10 := Lib.hid hF10; have HP10 := Lib.hid hp10; clear hF9 hF10 hp9 hp10)
              | (go_at_call 18; refine (Tryd.strings_Index t.1 _ mm _ (by omega) hmm).mono ?_; rintro r w8 ⟨hr8, rfl⟩; have hr8' : r = .returned (.int .i64 ix) := (by rw [hr8, HIX.out]; rfl); subst hr8'; clear hr8)
              | (go_at_call 17; refine (is_no (hp6.grown (World.grownBy_alloc _ _ none)) hb).mono ?_; rintro r w7 ⟨rfl, hg7, v7, hp8⟩; have hF8 := (hg7.block w6.heap.size (by simp) (by simp; omega)).trans (heap_alloc_new _ _); have hs7 := hg7.size; have HG8 := Lib.hid (grownBy_trans (grownBy_trans (grownBy_trans HG.out hg6) (World.grownBy_alloc _ _ _)) hg7); obtain ⟨u0, u1, u2, u3, u4, u5, u6, u7, u8, u9⟩ := block5 hF8;  obtain ⟨y0, y1, y2, y3, y4, z0, z1, z2, z3, z4⟩ := block5 hp8.blk; have HP8 := Lib.hid hp8; have HF8 := Lib.hid hF8; clear hp8 hF8; have hp8n := HP8.out; rw [← HR.out] at hp8n; obtain ⟨an, cn, rfl, t1, t2, t3⟩ := hp8n.tok; have hll : (t :: q).length = q.length + 1 := rfl; rw [hll] at t1 y0; obtain ⟨tb, to, rfl, htb, htT, htc⟩ := t3 (by simp); obtain ⟨tc1, tc2⟩ := htc 0 (by simp); simp only [Nat.zero_mul, Nat.add_zero, List.getElem_cons_zero] at tc1 tc2;  have HTC := Lib.hid htc; clear htc t3; have hsz8 := (hp8n.wf t (by simp)).1; have hE8 := HE.out.grown HG8.out hP; obtain ⟨mm, hmm⟩ := hE8.maxl; have HP8N := Lib.hid hp8n; have HE8 := Lib.hid hE8; clear hp8n hE8)
              | (go_at_call 17; refine HY.out.mono ?_; rintro r w6 ⟨rfl, hg6, v6, hp6⟩; have hs6 := hg6.size; have hne : P ≠ w6.heap.size := (by omega); have hne' : w6.heap.size ≠ P := (by omega); have hTF : T ≤ w6.heap.size := (by omega); have hwF : w.heap.size ≤ w6.heap.size := (by omega)))
                  obtain ⟨m0, m1, m2, m3, m4, m5, m6, m7, m8, m9⟩ := block5 HP12.out.blk
                  go_quiet (fail)
                  have hdq : ∀ W : World, ∀ q, W.grownBy (W.drewN q) none := fun W q => ⟨rfl, rfl, rfl, Nat.le_refl _, fun _ _ _ => rfl⟩
                  have hdq2 : ∀ W : World, ∀ q, W.grownBy (W.drewN q) (some P) := fun W q => ⟨rfl, rfl, rfl, Nat.le_refl _, fun _ _ _ => rfl⟩
                  have HP13 := Lib.hid (HP12.out.grown (hdq _ nq)); have HDQ2 := Lib.hid hdq2
                  clear hdq hdq2
                  go_wp2_with (go_at_call 12; refine (fail_any HP13.out 10).mono ?_; rintro r w14 ⟨⟨rv, rfl⟩, hg14, hp14⟩; rw [if_neg hz, if_neg hz] at hp14; obtain ⟨p0, p1, p2, p3, p4, p5, p6, p7, p8, p9⟩ := block5 hp14.blk)
                  go_ret
                  refine ⟨some ⟨w6.heap.size, 0, none⟩, rfl, grownBy_trans (grownBy_trans HG12.out (HDQ2.out _ _)) hg14, ?_⟩
                  rw [HONE.out, HT.out, HTS.out, if_pos hz]
                  rw [HFP.out, if_neg hz] at hp14
                  exact ⟨_, _, hp14⟩
                · have hlt3 : n1 ≤ n2 := by omega
                  as_aux_lemma =>
                  go_wp2_with (first
              | (go_at_call 19; refine (field_any HP10.out HE10.out.n (t.1.extract (ix + 2).toNat t.1.size) (by simp; omega)).mono ?_; rintro r w11 ⟨hr11, hg11, hp11⟩; rw [← HN2.out] at hr11; subst hr11; rw [← HE2.out, HFEE.out, HPP.out] at hp11; have hF11 := (hg11.block w6.heap.size (by have := HF10.out; exact (Array.getElem?_eq_some_iff.1 this).1) (by simp; omega)).trans HF10.out; have hF12 := block5_set3 (x' := .int .i64 n2) hF11; obtain ⟨i0, i1, i2, i3, i4, i5, i6, i7, i8, i9⟩ := block5 hF11; obtain ⟨j0, j1, j2, j3, j4, j5, j6, j7, j8, j9⟩ := block5 hF12; have hp12 := hp11.off (grownBy_setCell (grownBy_refl _ _) 3 (.int .i64 n2)) (F := w6.heap.size) hTF hne'; obtain ⟨k0, k1, k2, k3, k4, k5, k6, k7, k8, k9⟩ := block5 hp11.blk; have HG12 := Lib.hid (grown_set 3 (.int .i64 n2) (grownBy_trans HG10.out hg11) hwF); have HF12 := Lib.hid hF12; have HP12 := Lib.hid hp12; clear hF11 hF12 hp11 hp12)
              | (go_at_call 19; refine (field_any HP8N.out HE8.out.n (t.1.extract 0 ix.toNat) (by simp; omega)).mono ?_; rintro r w9 ⟨hr9, hg9, hp9⟩; rw [← HN1.out] at hr9; subst hr9; rw [if_pos rfl, if_pos rfl, ← HE1.out] at hp9; have hF9 := (hg9.block w6.heap.size (by have := HF8.out; exact (Array.getElem?_eq_some_iff.1 this).1) (by simp; omega)).trans HF8.out; have hF10 := block5_set2 (x' := .int .i64 n1) hF9; obtain ⟨s0, s1, s2, s3, s4, s5, s6, s7, s8, s9⟩ := block5 hF9; obtain ⟨r0, r1, r2, r3, r4, r5, r6, r7, r8, r9⟩ := block5 hF10; have hp10 := hp9.off (grownBy_setCell (grownBy_refl _ _) 2 (.int .i64 n1)) (F := w6.heap.size) hTF hne'; have HG10 := Lib.hid (grown_set 2 (.int .i64 n1) (grownBy_trans HG8.out hg9) hwF); have HE10 := Lib.hid (HE.out.grown HG10.out hP); have HF10 := Lib.hid hF10; have HP10 := Lib.hid hp10; clear hF9 hF10 hp9 hp10)
              | (go_at_call 18; refine (Tryd.strings_Index t.1 _ mm _ (by omega) hmm).mono ?_; rintro r w8 ⟨hr8, rfl⟩; have hr8' : r = .returned (.int .i64 ix) := (by rw [hr8, HIX.out]; rfl); subst hr8'; clear hr8)
              | (go_at_call 17; refine (is_no (hp6.grown (World.grownBy_alloc _ _ none)) hb).mono ?_; rintro r w7 ⟨rfl, hg7, v7, hp8⟩; have hF8 := (hg7.block w6.heap.size (by simp) (by simp; omega)).trans (heap_alloc_new _ _); have hs7 := hg7.size; have HG8 := Lib.hid (grownBy_trans (grownBy_trans (grownBy_trans HG.out hg6) (World.grownBy_alloc _ _ _)) hg7); obtain ⟨u0, u1, u2, u3, u4, u5, u6, u7, u8, u9⟩ := block5 hF8;  obtain ⟨y0, y1, y2, y3, y4, z0, z1, z2, z3, z4⟩ := block5 hp8.blk; have HP8 := Lib.hid hp8; have HF8 := Lib.hid hF8; clear hp8 hF8; have hp8n := HP8.out; rw [← HR.out] at hp8n; obtain ⟨an, cn, rfl, t1, t2, t3⟩ := hp8n.tok; have hll : (t :: q).length = q.length + 1 := rfl; rw [hll] at t1 y0; obtain ⟨tb, to, rfl, htb, htT, htc⟩ := t3 (by simp); obtain ⟨tc1, tc2⟩ := htc 0 (by simp); simp only [Nat.zero_mul, Nat.add_zero, List.getElem_cons_zero] at tc1 tc2;  have HTC := Lib.hid htc; clear htc t3; have hsz8 := (hp8n.wf t (by simp)).1; have hE8 := HE.out.grown HG8.out hP; obtain ⟨mm, hmm⟩ := hE8.maxl; have HP8N := Lib.hid hp8n; have HE8 := Lib.hid hE8; clear hp8n hE8)
              | (go_at_call 17; refine HY.out.mono ?_; rintro r w6 ⟨rfl, hg6, v6, hp6⟩; have hs6 := hg6.size; have hne : P ≠ w6.heap.size := (by omega); have hne' : w6.heap.size ≠ P := (by omega); have hTF : T ≤ w6.heap.size := (by omega); have hwF : w.heap.size ≤ w6.heap.size := (by omega)))
                  obtain ⟨m0, m1, m2, m3, m4, m5, m6, m7, m8, m9⟩ := block5 HP12.out.blk
                  go_quiet (fail)
                  go_wp2
                  go_ret
                  have hdq : ∀ W : World, ∀ q, W.grownBy (W.drewN q) none := fun W q => ⟨rfl, rfl, rfl, Nat.le_refl _, fun _ _ _ => rfl⟩
                  have hdq2 : ∀ W : World, ∀ q, W.grownBy (W.drewN q) (some P) := fun W q => ⟨rfl, rfl, rfl, Nat.le_refl _, fun _ _ _ => rfl⟩
                  refine ⟨some ⟨w6.heap.size, 0, none⟩, rfl, grownBy_trans HG12.out (hdq2 _ _), ?_⟩
                  rw [HONE.out, HT.out, HTS.out, if_pos hz]
                  have h13 := HP12.out.grown (hdq _ nq)
                  rw [HFP.out, if_neg hz] at h13
                  exact ⟨_, _, h13⟩
--ENDHIT--
      · have hh' : headIs l (kField i) = false := by simpa using hh
        have hin := is_no hp hh'
        have HH := Lib.hid hh'; have HIN := Lib.hid hin
        clear hg hno hp hh hh' hin
        go_wp2_with (go_at_call 17; refine HIN.out.mono ?_; rintro r w6 ⟨rfl, hg6, v6, hp6⟩)
        go_roundg n
        case measure => omega
        case rel =>
          refine ⟨grownBy_trans HG.out hg6, i + 1, v6, by omega, by go_num, hp6, fun j hj => ?_⟩
          rcases Nat.lt_or_ge j i with h | h
          · exact HNO.out j h
          · obtain rfl : j = i := by omega
            exact HH.out
    · obtain rfl : i = 5 := by omega
      have hfl := fail_any hp 3
      have HFL := Lib.hid hfl
      clear hg hno hp hfl
      go_wp2_with (go_at_call 12; refine HFL.out.mono ?_; rintro r w6 ⟨⟨rv, rfl⟩, hg6, hp6⟩)
      go_ret
      refine ⟨none, rfl, grownBy_trans HG.out hg6, ?_⟩
      unfold one
      rw [if_neg (by rw [hl0]; simp), if_neg (by rw [hl1]; simp), if_neg (by rw [hl2]; simp), fieldAt_none 5 0 (fun j _ h => HNO.out j (by omega)), if_neg (by omega)]
      exact ⟨v5, l, hp6⟩
end Go.Proofs.YtfjfbiocjloilaaDoor
