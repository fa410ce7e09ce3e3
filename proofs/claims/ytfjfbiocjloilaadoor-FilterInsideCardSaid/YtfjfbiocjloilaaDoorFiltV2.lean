/-
  What is proved here: the program's reader: a field's test (11.2).
-/
import Derived.Test.YtfjfbiocjloilaaDoorFiltV1
namespace Go.Proofs.YtfjfbiocjloilaaDoor
open Go.RowKit Go.Sort

theorem quiet_add {P : Program} {f : FuncId} {args : Array Value} {w : World} {a n : Nat} {v : Value}
    (h : Calls P f args (w.drewN (a + n)) fun e w' => e = .returned v ∧ ∃ m, w' = (w.drewN (a + n)).drewN m) :
    Calls P f args (w.drewN (a + n)) fun e w'' => e = .returned v ∧ ∃ m, w'' = w.drewN (a + m) :=
  h.mono fun _ _ ⟨he, m, hm⟩ => ⟨he, n + m, by rw [hm, World.drewN_drewN, Nat.add_assoc]⟩
/-- A value of an interface. -/
def IfV (v : Value) : Prop := v = .nilIface ∨ ∃ t p, v = .iface t p
def OneVM (w : World) (R T : Nat) (wv pv : Value) (ts : List Tok) (en : Nat) (fv ev : Value) (w' : World) : Res → Prop
  | .err e rest => PErr w' ev e (hereOf rest en) ∧ IfV fv
  | .ok a rest => ev = .nilIface ∧ ∃ k', rest = ts.drop k' ∧ RS w' R T wv pv ts k' en ∧ VAst (fun b => w.heap.size ≤ b) w' fv a
/-- A filter is read, or an error told. -/
def OneV (w : World) (R T : Nat) (wv pv : Value) (ts : List Tok) (en : Nat) (res : Res) (r : Ending) (w' : World) : Prop :=
  ∃ fv ev, r = .returned (.tuple #[fv, ev]) ∧ w.grownBy w' (some R) ∧ OneVM w R T wv pv ts en fv ev w' res
abbrev testObj (i : Nat) (lo hi : Int) (b : Bool) : Obj := .cells #[.int .i64 i, .int .i64 lo, .int .i64 hi, .bool b] 80 (0, 0)
theorem grownR_below {w w' w'' : World} {R : Nat} (h : w.grownBy w' (some R)) (hb : Below w'.heap.size w' w'') : w.grownBy w'' (some R) :=
  grownBy_trans h ⟨hb.os, hb.tape, hb.output, hb.size, fun k hk _ => hb.block k hk⟩
/-- In the midst of a test. -/
structure TestI (w : World) (R T : Nat) (wv pv : Value) (ts : List Tok) (k en X i : Nat) (l h : Int) (b : Bool) (W : World) : Prop where
  g : w.grownBy W (some R)
  r : RS W R T wv pv ts k en
  x : W.heap[X]? = some (testObj i l h b)
  old : w.heap.size ≤ X
theorem TestI.drewN {w W : World} {R T : Nat} {wv pv : Value} {ts : List Tok} {k en X i : Nat} {l h : Int} {b : Bool} (H : TestI w R T wv pv ts k en X i l h b W) (n : Nat) : TestI w R T wv pv ts k en X i l h b (W.drewN n) :=
  ⟨⟨H.g.os, H.g.tape, H.g.output, H.g.size, H.g.block⟩, H.r.grown ⟨rfl, rfl, rfl, Nat.le_refl _, fun _ _ _ => rfl⟩, H.x, H.old⟩
theorem TestI.below {w W W' : World} {R T : Nat} {wv pv : Value} {ts : List Tok} {k en X i : Nat} {l h : Int} {b : Bool} (H : TestI w R T wv pv ts k en X i l h b W) (hb : Below W.heap.size W W') : TestI w R T wv pv ts k en X i l h b W' :=
  ⟨grownR_below H.g hb, H.r.below hb, (hb.block X (Array.getElem?_eq_some_iff.1 H.x).1).trans H.x, H.old⟩
theorem RS.off {W W' : World} {R T F : Nat} {wv pv : Value} {ts : List Tok} {k en : Nat} (h : RS W R T wv pv ts k en) (hg : W.grownBy W' (some F)) (hF : T ≤ F) (hR : F ≠ R) : RS W' R T wv pv ts k en := by
  refine ⟨(hg.block R h.lt (by simpa using Ne.symm hR)).trans h.blk, ?_, ?_, h.wf, h.len, h.le⟩
  · obtain ⟨a, c, rfl, h1, h2, h3⟩ := h.w
    refine ⟨a, c, rfl, h1, h2, fun h0 => ?_⟩
    obtain ⟨b, o, rfl, hb, hbT, hc⟩ := h3 h0
    exact ⟨b, o, rfl, hb, hbT, fun i hi => hg.cell (hc i hi) (by simp; omega)⟩
  · obtain ⟨a, c, rfl, h1, h2, h3⟩ := h.p
    refine ⟨a, c, rfl, h1, h2, fun h0 => ?_⟩
    obtain ⟨b, o, rfl, hb, hbT, hc⟩ := h3 h0
    exact ⟨b, o, rfl, hb, hbT, fun i hi => hg.cell (hc i hi) (by simp; omega)⟩
theorem TestI.low {w W : World} {R T : Nat} {wv pv : Value} {ts : List Tok} {k en X i : Nat} {l h : Int} {b : Bool} (H : TestI w R T wv pv ts k en X i l h b W) (hT : T ≤ w.heap.size) (hR : R < w.heap.size) (n : Int) : TestI w R T wv pv ts k en X i n h b (W.setCell ⟨X, 1, none⟩ (.int .i64 n)) :=
  ⟨grown_set 1 _ H.g H.old, H.r.off (grownBy_setCell (grownBy_refl _ _) 1 _) (Nat.le_trans hT H.old) (by have := H.old; omega), by have := H.x; simp [World.setCell, Array.getElem?_modify, this], H.old⟩
theorem TestI.high {w W : World} {R T : Nat} {wv pv : Value} {ts : List Tok} {k en X i : Nat} {l h : Int} {b : Bool} (H : TestI w R T wv pv ts k en X i l h b W) (hT : T ≤ w.heap.size) (hR : R < w.heap.size) (n : Int) : TestI w R T wv pv ts k en X i l n b (W.setCell ⟨X, 2, none⟩ (.int .i64 n)) :=
  ⟨grown_set 2 _ H.g H.old, H.r.off (grownBy_setCell (grownBy_refl _ _) 2 _) (Nat.le_trans hT H.old) (by have := H.old; omega), by have := H.x; simp [World.setCell, Array.getElem?_modify, this], H.old⟩
/-! ### plain: what a test's signs say, by strings.Cut -/
theorem tstGo_none {i : Nat} {bits : Bool} {tw ls : ByteArray} {p : Nat} {q : List Tok} (hls : ls = ⟨(Lib.cut tw.data.toList dots).1.toArray⟩) (h2 : (Lib.cut tw.data.toList dots).2.2 = false) :
    tstGo i bits ((tw, p) :: q) = if numE ls.data.toList ≠ 0 then .err (numE ls.data.toList) ((tw, p) :: q) else .ok (if bits then .has i (numV ls.data.toList) else .test i (numV ls.data.toList) (numV ls.data.toList)) q := by
  have hix : Lib.index tw.data.toList dots < 0 := by
    unfold Lib.cut at h2
    split at h2
    · cases h2
    · omega
  have hl : ls.data.toList = tw.data.toList := by
    rw [hls]; unfold Lib.cut; rw [if_neg (by omega)]
  simp only [tstGo]
  rw [if_pos hix, hl]
theorem tstGo_two {i : Nat} {tw ls rs : ByteArray} {p : Nat} {q : List Tok} (hls : ls = ⟨(Lib.cut tw.data.toList dots).1.toArray⟩) (hrs : rs = ⟨(Lib.cut tw.data.toList dots).2.1.toArray⟩) (h2 : (Lib.cut tw.data.toList dots).2.2 = true) (bits : Bool) :
    tstGo i bits ((tw, p) :: q) = if bits then .err 3 ((tw, p) :: q) else if numE ls.data.toList ≠ 0 then .err (numE ls.data.toList) ((tw, p) :: q) else if numE rs.data.toList ≠ 0 then .err (numE rs.data.toList) ((tw, p) :: q)
      else if numV rs.data.toList < numV ls.data.toList then .err 10 ((tw, p) :: q) else .ok (.test i (numV ls.data.toList) (numV rs.data.toList)) q := by
  have hix : ¬ Lib.index tw.data.toList dots < 0 := by
    unfold Lib.cut at h2
    split at h2
    · omega
    · cases h2
  have hl : ls.data.toList = (Lib.cut tw.data.toList dots).1 := by rw [hls]
  have hr : rs.data.toList = (Lib.cut tw.data.toList dots).2.1 := by rw [hrs]
  simp only [tstGo]
  rw [if_neg hix, hl, hr]
theorem numF_ok {s : List UInt8} (h : numE s = 0) : numF s = numV s := by unfold numF; rw [if_pos h]
set_option maxHeartbeats 4000000 in
set_option maxRecDepth 100000 in
theorem testv_go {w : World} {lo R T : Nat} {wv pv : Value} {ts : List Tok} {k k1 en i : Nat} {bits : Bool} (h : RS w R T wv pv ts k en) (hE : EnvF lo w) (hR : lo ≤ R) (hT : T ≤ w.heap.size) (hi : i < 5)
    (ht : Calls Tryd.prog 21 #[ptrP R, .string kHas] w fun r w' => r = .returned (.bool bits) ∧ w.grownBy w' (some R) ∧ RS w' R T wv pv ts k1 en) :
    Calls Tryd.prog 23 #[ptrP R, .int .i64 i] w (OneV w R T wv pv ts en (tstGo i bits (ts.drop k1))) := by
  have hRl := h.lt
  have HT := Lib.hid ht; have HE := Lib.hid hE; have H := Lib.hid h
  clear ht hE h
  go_enter Tryd.func23, Tryd.ntmps23
  go_wp2_with (go_at_call 21; refine HT.out.mono ?_; rintro r w1 ⟨rfl, hg1, hr1⟩)
  have hs1 := hg1.size
  refine wp_forget (TestI w R T wv pv ts k1 en w1.heap.size i 0 0 bits) ⟨grownBy_alloc hg1 _, hr1.grown (World.grownBy_alloc _ _ _), heap_alloc_new w1 (testObj i 0 0 bits), hs1⟩ ?_
  rintro W HI
  have hX : w.heap.size ≤ w1.heap.size := hs1
  clear hg1 hr1 hs1 HT
  obtain ⟨y0, y1, y2, y3, z0, z1, z2, z3⟩ := block4 HI.r.blk
  obtain ⟨x0, x1, x2, x3, u0, u1, u2, u3⟩ := block4 HI.x
  obtain ⟨a, c, rfl, h1, h2, h3⟩ := HI.r.w
  have hlen := HI.r.len
  have hkl := HI.r.le
  by_cases hk : k1 < ts.length
  · obtain ⟨b, o, rfl, hb, hbT, hc⟩ := h3 (by omega)
    have hne : ((k1 : Int) == ts.length) = false := by simp; omega
    obtain ⟨tw, htw⟩ : ∃ tw, tw = tokW ts k1 := ⟨_, rfl⟩
    have hck : W.cell? ⟨b, o + k1, none⟩ = some (.string tw) := (hc k1 hk).trans (by rw [htw])
    have hsz : tw.size ≤ 2000 := by rw [htw]; exact (HI.r.wf _ (tokW_mem hk)).1
    obtain ⟨m, hm⟩ := (HE.out.grown HI.g hR).maxl
    obtain ⟨ls, hls⟩ : ∃ ls : ByteArray, ls = ⟨(Lib.cut tw.data.toList dots).1.toArray⟩ := ⟨_, rfl⟩
    obtain ⟨rs, hrs⟩ : ∃ rs : ByteArray, rs = ⟨(Lib.cut tw.data.toList dots).2.1.toArray⟩ := ⟨_, rfl⟩
    obtain ⟨two, htwo⟩ : ∃ two : Bool, two = (Lib.cut tw.data.toList dots).2.2 := ⟨_, rfl⟩
    have hcut : ∀ n, Calls Tryd.prog 30 #[.string tw, .string ⟨#[46, 46]⟩] (W.drewN n) fun e w' => e = .returned (.tuple #[.string ls, .string rs, .bool two]) ∧ ∃ n', w' = (W.drewN n).drewN n' := fun n => by
      rw [hls, hrs, htwo]; exact Tryd.strings_Cut tw _ m (W.drewN n) (by omega) hm
    have HCUT := Lib.hid hcut
    have HLS := Lib.hid hls; have HRS := Lib.hid hrs; have HTWO := Lib.hid htwo; have HTW := Lib.hid htw
    have HI' := Lib.hid HI
    clear HI hcut hls hrs htwo htw hm h3 hc
    go_quiet (fail)
    obtain ⟨n1q, rfl⟩ : ∃ n1q, n1q = nq := ⟨_, rfl⟩
    go_wp2
    go_quiet ((first | (go_at_call 30; exact quiet_add (by simpa using HCUT.out _)) | (go_at_call 30; exact Calls.quiet_of (HCUT.out _))))
    have hi2 := (HI'.out.drewN n1q).drewN nq
    generalize (W.drewN n1q).drewN nq = W2 at hi2 ⊢
    clear y0 y1 y2 y3 z0 z1 z2 z3 x0 x1 x2 x3 u0 u1 u2 u3 hck hne
    obtain ⟨y0, y1, y2, y3, z0, z1, z2, z3⟩ := block4 hi2.r.blk
    obtain ⟨x0, x1, x2, x3, u0, u1, u2, u3⟩ := block4 hi2.x
    have HI2 := Lib.hid hi2
    have hdt : ts.drop k1 = (tw, tokP ts k1) :: ts.drop (k1 + 1) := by rw [HTW.out]; exact drop_tok hk
    have hlsz : ls.size ≤ 2000 := by
      rw [HLS.out]; show (Lib.cut tw.data.toList dots).1.length ≤ 2000
      have : tw.data.toList.length = tw.size := by simp
      unfold Lib.cut; split
      · show (tw.data.toList.take _).length ≤ 2000; rw [List.length_take]; omega
      · show tw.data.toList.length ≤ 2000; omega
    have hrsz : rs.size ≤ 2000 := by
      rw [HRS.out]; show (Lib.cut tw.data.toList dots).2.1.length ≤ 2000
      have : tw.data.toList.length = tw.size := by simp
      unfold Lib.cut; split
      · show (tw.data.toList.drop _).length ≤ 2000; rw [List.length_drop]; omega
      · show ([] : List UInt8).length ≤ 2000; simp
    obtain ⟨e1, he1⟩ : ∃ e1, e1 = numE ls.data.toList := ⟨_, rfl⟩
    obtain ⟨n1, hn1⟩ : ∃ n1, n1 = numF ls.data.toList := ⟨_, rfl⟩
    obtain ⟨e2, he2⟩ : ∃ e2, e2 = numE rs.data.toList := ⟨_, rfl⟩
    obtain ⟨n2, hn2⟩ : ∃ n2, n2 = numF rs.data.toList := ⟨_, rfl⟩
    have HE1 := Lib.hid he1; have HN1 := Lib.hid hn1; have HE2 := Lib.hid he2; have HN2 := Lib.hid hn2; have HDT := Lib.hid hdt
    have hno1 : e1 = 0 → n1 = numV ls.data.toList ∧ NumOk n1 := fun h => by rw [hn1, numF_ok (he1 ▸ h)]; exact ⟨rfl, numE_ok (he1 ▸ h)⟩
    have hno2 : e2 = 0 → n2 = numV rs.data.toList ∧ NumOk n2 := fun h => by rw [hn2, numF_ok (he2 ▸ h)]; exact ⟨rfl, numE_ok (he2 ▸ h)⟩
    have HO1 := Lib.hid hno1; have HO2 := Lib.hid hno2
    clear he1 hn1 he2 hn2 hdt hi2 hno1 hno2
    cases two with
    | false =>
      have hres : tstGo i bits (ts.drop k1) = if e1 ≠ 0 then .err e1 (ts.drop k1) else .ok (if bits then .has i (numV ls.data.toList) else .test i (numV ls.data.toList) (numV ls.data.toList)) (ts.drop (k1 + 1)) := by
        rw [HDT.out, HE1.out]; exact tstGo_none HLS.out HTWO.out.symm
      have HRES := Lib.hid hres
      clear hres
      by_cases hz : e1 = 0
      · subst hz
        go_wp2_with (go_at_call 31; (with_reducible refine (number_any ls _ (HE.out.grown HI2.out.g hR).n (by omega)).mono ?_); rintro r w3 ⟨hr3, hb3⟩; rw [← HN1.out, ← HE1.out] at hr3; subst hr3; have hi3 := HI2.out.below hb3; obtain ⟨a0, a1, a2, a3, v0, v1, v2, v3⟩ := block4 hi3.x; have hi4 := hi3.low hT hRl n1; obtain ⟨b0, b1, b2, b3, c0, c1, c2, c3⟩ := block4 hi4.x; obtain ⟨d0, d1, d2, d3, i0, i1, i2, i3⟩ := block4 hi4.r.blk; have HI4 := Lib.hid hi4; clear hi3 hi4)
        go_ret2
        have hi7 := HI4.out.high hT hRl n1
        have hr7 := hi7.r.step hk
        refine ⟨_, _, rfl, grownBy_setCell hi7.g 2 _, ?_⟩
        rw [HRES.out, if_neg (by simp)]
        refine ⟨rfl, k1 + 1, rfl, hr7, ?_⟩
        obtain ⟨q1, q2⟩ := HO1.out trivial
        rw [← q1]
        cases bits
        · show VAst _ _ _ (.test i n1 n1)
          unfold VAst
          exact ⟨rfl, hi, q2, q2⟩
        · show VAst _ _ _ (.has i n1)
          unfold VAst
          exact ⟨rfl, hi, q2⟩
      · go_wp2_with (first | (go_at_call 14; refine (failp HI4.out.r e1).mono ?_; rintro r w7 ⟨eb, rfl, hp7, hb7⟩) | (go_at_call 31; (with_reducible refine (number_any ls _ (HE.out.grown HI2.out.g hR).n (by omega)).mono ?_); rintro r w3 ⟨hr3, hb3⟩; rw [← HN1.out, ← HE1.out] at hr3; subst hr3; have hi3 := HI2.out.below hb3; obtain ⟨a0, a1, a2, a3, v0, v1, v2, v3⟩ := block4 hi3.x; have hi4 := hi3.low hT hRl n1; obtain ⟨b0, b1, b2, b3, c0, c1, c2, c3⟩ := block4 hi4.x; obtain ⟨d0, d1, d2, d3, i0, i1, i2, i3⟩ := block4 hi4.r.blk; have HI4 := Lib.hid hi4; clear hi3 hi4))
        go_ret2
        refine ⟨_, _, rfl, grownR_below HI4.out.g hb7, ?_⟩
        rw [HRES.out, if_pos hz]
        exact ⟨hp7, .inl rfl⟩
    | true =>
      have hres : ∀ b, tstGo i b (ts.drop k1) = if b then .err 3 (ts.drop k1) else if e1 ≠ 0 then .err e1 (ts.drop k1) else if e2 ≠ 0 then .err e2 (ts.drop k1) else if numV rs.data.toList < numV ls.data.toList then .err 10 (ts.drop k1) else .ok (.test i (numV ls.data.toList) (numV rs.data.toList)) (ts.drop (k1 + 1)) := fun b => by
        rw [HDT.out, HE1.out, HE2.out]; exact tstGo_two HLS.out HRS.out HTWO.out.symm b
      cases bits with
      | true =>
        have HRES := Lib.hid ((hres true).trans (if_pos rfl))
        clear hres
        go_wp2_with (go_at_call 14; refine (failp HI2.out.r 3).mono ?_; rintro r w7 ⟨eb, rfl, hp7, hb7⟩)
        go_ret2
        refine ⟨_, _, rfl, grownR_below HI2.out.g hb7, ?_⟩
        rw [HRES.out]
        exact ⟨hp7, .inl rfl⟩
      | false =>
        have HRES := Lib.hid ((hres false).trans (if_neg (by simp)))
        clear hres
        by_cases hz : e1 = 0
        · subst hz
          by_cases hz2 : e2 = 0
          · subst hz2
            obtain ⟨q1, q2⟩ := HO1.out rfl
            obtain ⟨q3, q4⟩ := HO2.out rfl
            have Q1 := Lib.hid q1; have Q3 := Lib.hid q3
            clear q1 q3
            by_cases hlt : n2 < n1
            · go_wp2_with (first | (go_at_call 14; refine (failp HI6.out.r 10).mono ?_; rintro r w7 ⟨eb, rfl, hp7, hb7⟩) | (go_at_call 31; (with_reducible refine (number_any rs _ (HE.out.grown HI4H.out.g hR).n (by omega)).mono ?_); rintro r w5 ⟨hr5, hb5⟩; rw [← HN2.out, ← HE2.out] at hr5; subst hr5; have hi5 := HI4H.out.below hb5; obtain ⟨e0, e1', e2', e3, f0, f1, f2, f3⟩ := block4 hi5.x; have hi6 := hi5.high hT hRl n2; obtain ⟨g0, g1, g2, g3, j0, j1, j2, j3⟩ := block4 hi6.x; obtain ⟨l0, l1, l2, l3, m0, m1, m2, m3⟩ := block4 hi6.r.blk; have HI6 := Lib.hid hi6; clear hi5 hi6) | (go_at_call 31; (with_reducible refine (number_any ls _ (HE.out.grown HI2.out.g hR).n (by omega)).mono ?_); rintro r w3 ⟨hr3, hb3⟩; rw [← HN1.out, ← HE1.out] at hr3; subst hr3; have hi3 := HI2.out.below hb3; obtain ⟨a0, a1, a2, a3, v0, v1, v2, v3⟩ := block4 hi3.x; have hi4 := hi3.low hT hRl n1; obtain ⟨b0, b1, b2, b3, c0, c1, c2, c3⟩ := block4 hi4.x; obtain ⟨d0, d1, d2, d3, i0, i1, i2, i3⟩ := block4 hi4.r.blk; have hi4h := hi4.high hT hRl n1; obtain ⟨aa0, aa1, aa2, aa3, vv0, vv1, vv2, vv3⟩ := block4 hi4h.x; have HI4H := Lib.hid hi4h; have HI4 := Lib.hid hi4; clear hi3 hi4 hi4h))
              go_ret2
              refine ⟨_, _, rfl, grownR_below HI6.out.g hb7, ?_⟩
              rw [HRES.out, if_neg (by simp), if_neg (by simp), ← Q1.out, ← Q3.out, if_pos hlt]
              exact ⟨hp7, .inl rfl⟩
            · have hge : n1 ≤ n2 := by omega
              go_wp2_with (first | (go_at_call 31; (with_reducible refine (number_any rs _ (HE.out.grown HI4H.out.g hR).n (by omega)).mono ?_); rintro r w5 ⟨hr5, hb5⟩; rw [← HN2.out, ← HE2.out] at hr5; subst hr5; have hi5 := HI4H.out.below hb5; obtain ⟨e0, e1', e2', e3, f0, f1, f2, f3⟩ := block4 hi5.x; have hi6 := hi5.high hT hRl n2; obtain ⟨g0, g1, g2, g3, j0, j1, j2, j3⟩ := block4 hi6.x; obtain ⟨l0, l1, l2, l3, m0, m1, m2, m3⟩ := block4 hi6.r.blk; have HI6 := Lib.hid hi6; clear hi5 hi6) | (go_at_call 31; (with_reducible refine (number_any ls _ (HE.out.grown HI2.out.g hR).n (by omega)).mono ?_); rintro r w3 ⟨hr3, hb3⟩; rw [← HN1.out, ← HE1.out] at hr3; subst hr3; have hi3 := HI2.out.below hb3; obtain ⟨a0, a1, a2, a3, v0, v1, v2, v3⟩ := block4 hi3.x; have hi4 := hi3.low hT hRl n1; obtain ⟨b0, b1, b2, b3, c0, c1, c2, c3⟩ := block4 hi4.x; obtain ⟨d0, d1, d2, d3, i0, i1, i2, i3⟩ := block4 hi4.r.blk; have hi4h := hi4.high hT hRl n1; obtain ⟨aa0, aa1, aa2, aa3, vv0, vv1, vv2, vv3⟩ := block4 hi4h.x; have HI4H := Lib.hid hi4h; have HI4 := Lib.hid hi4; clear hi3 hi4 hi4h))
              go_ret2
              have hr7 := HI6.out.r.step hk
              refine ⟨_, _, rfl, grownBy_setCell HI6.out.g 2 _, ?_⟩
              rw [HRES.out, if_neg (by simp), if_neg (by simp), ← Q1.out, ← Q3.out, if_neg (by omega)]
              refine ⟨rfl, k1 + 1, rfl, hr7, ?_⟩
              unfold VAst
              exact ⟨rfl, hi, q2, q4⟩
          · go_wp2_with (first | (go_at_call 14; refine (failp HI6.out.r e2).mono ?_; rintro r w7 ⟨eb, rfl, hp7, hb7⟩) | (go_at_call 31; (with_reducible refine (number_any rs _ (HE.out.grown HI4H.out.g hR).n (by omega)).mono ?_); rintro r w5 ⟨hr5, hb5⟩; rw [← HN2.out, ← HE2.out] at hr5; subst hr5; have hi5 := HI4H.out.below hb5; obtain ⟨e0, e1', e2', e3, f0, f1, f2, f3⟩ := block4 hi5.x; have hi6 := hi5.high hT hRl n2; obtain ⟨g0, g1, g2, g3, j0, j1, j2, j3⟩ := block4 hi6.x; obtain ⟨l0, l1, l2, l3, m0, m1, m2, m3⟩ := block4 hi6.r.blk; have HI6 := Lib.hid hi6; clear hi5 hi6) | (go_at_call 31; (with_reducible refine (number_any ls _ (HE.out.grown HI2.out.g hR).n (by omega)).mono ?_); rintro r w3 ⟨hr3, hb3⟩; rw [← HN1.out, ← HE1.out] at hr3; subst hr3; have hi3 := HI2.out.below hb3; obtain ⟨a0, a1, a2, a3, v0, v1, v2, v3⟩ := block4 hi3.x; have hi4 := hi3.low hT hRl n1; obtain ⟨b0, b1, b2, b3, c0, c1, c2, c3⟩ := block4 hi4.x; obtain ⟨d0, d1, d2, d3, i0, i1, i2, i3⟩ := block4 hi4.r.blk; have hi4h := hi4.high hT hRl n1; obtain ⟨aa0, aa1, aa2, aa3, vv0, vv1, vv2, vv3⟩ := block4 hi4h.x; have HI4H := Lib.hid hi4h; have HI4 := Lib.hid hi4; clear hi3 hi4 hi4h))
            go_ret2
            refine ⟨_, _, rfl, grownR_below HI6.out.g hb7, ?_⟩
            rw [HRES.out, if_neg (by simp), if_pos hz2]
            exact ⟨hp7, .inl rfl⟩
        · go_wp2_with (first | (go_at_call 14; refine (failp HI4.out.r e1).mono ?_; rintro r w7 ⟨eb, rfl, hp7, hb7⟩) | (go_at_call 31; (with_reducible refine (number_any ls _ (HE.out.grown HI2.out.g hR).n (by omega)).mono ?_); rintro r w3 ⟨hr3, hb3⟩; rw [← HN1.out, ← HE1.out] at hr3; subst hr3; have hi3 := HI2.out.below hb3; obtain ⟨a0, a1, a2, a3, v0, v1, v2, v3⟩ := block4 hi3.x; have hi4 := hi3.low hT hRl n1; obtain ⟨b0, b1, b2, b3, c0, c1, c2, c3⟩ := block4 hi4.x; obtain ⟨d0, d1, d2, d3, i0, i1, i2, i3⟩ := block4 hi4.r.blk; have HI4 := Lib.hid hi4; clear hi3 hi4))
          go_ret2
          refine ⟨_, _, rfl, grownR_below HI4.out.g hb7, ?_⟩
          rw [HRES.out, if_pos hz]
          exact ⟨hp7, .inl rfl⟩
  · obtain rfl : k1 = ts.length := by omega
    have HI' := Lib.hid HI
    have hres : tstGo i bits (ts.drop ts.length) = .err 3 (ts.drop ts.length) := by rw [List.drop_length]; rfl
    have HRES := Lib.hid hres
    clear HI h3 hres
    go_quiet (fail)
    have HI2 := Lib.hid (HI'.out.drewN nq)
    go_wp2_with (go_at_call 14; refine (failp HI2.out.r 3).mono ?_; rintro r w7 ⟨eb, rfl, hp7, hb7⟩)
    go_ret2
    refine ⟨_, _, rfl, grownR_below HI2.out.g hb7, ?_⟩
    rw [HRES.out]
    exact ⟨hp7, .inl rfl⟩
theorem testv {w : World} {lo R T : Nat} {wv pv : Value} {ts : List Tok} {k en i : Nat} (h : RS w R T wv pv ts k en) (hE : EnvF lo w) (hR : lo ≤ R) (hT : T ≤ w.heap.size) (hi : i < 5) :
    Calls Tryd.prog 23 #[ptrP R, .int .i64 i] w (OneV w R T wv pv ts en (tst i (ts.drop k))) := by
  unfold tst
  by_cases hb : headIs (ts.drop k) kHas = true
  · rw [if_pos hb, drop_tail]
    exact testv_go h hE hR hT hi (take_yes h hb)
  · rw [if_neg hb]
    exact testv_go h hE hR hT hi (take_no h (by simpa using hb))
end Go.Proofs.YtfjfbiocjloilaaDoor
