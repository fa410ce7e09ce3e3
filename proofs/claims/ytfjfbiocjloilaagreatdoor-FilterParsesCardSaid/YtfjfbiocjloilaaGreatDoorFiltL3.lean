/-
  What is proved here: the law FilterParses answers true (11.2, 11.3).
-/
import Derived.Test.YtfjfbiocjloilaaGreatDoorFiltV5
import Derived.Test.YtfjfbiocjloilaaGreatDoorFiltT2
import Derived.Test.YtfjfbiocjloilaaGreatDoorErr5
namespace Go.Proofs.YtfjfbiocjloilaaGreatDoor
open Go.RowKit Go.Sort

theorem parseE_zero {s : ByteArray} {a : Ast} (h : (parseE s).2.2 = some a) : (parseE s).1 = 0 ∧ (parseE s).2.1 = -1 ∧ wgt a ≤ (toks s).length := by
  unfold parseE at h ⊢
  split at h
  · cases h
  · rename_i h0
    rw [if_neg h0]
    split at h
    · cases h
    · rename_i a1 r1 h1
      split at h
      · rename_i h2
        rw [if_pos h2]
        injection h with h3
        subst h3
        have := one_wgt _ _ _ _ h1
        exact ⟨rfl, rfl, by omega⟩
      · cases h
theorem parseE_bad {s : ByteArray} (h : (parseE s).2.2 = none) : (parseE s).1 ≠ 0 := by
  unfold parseE at h ⊢
  split at h
  · rename_i h0; rw [if_pos h0]; simp
  · rename_i h0
    rw [if_neg h0]
    split at h
    · rename_i h1; exact one_err _ _ _ _ h1
    · split at h
      · cases h
      · rename_i h2; rw [if_neg h2]; simp
theorem atB_same (e pl : Int) : atB e pl e pl = true := by simp [atB]
theorem PErr.errV {W : World} {v : Value} {e p : Int} (h : PErr W v e p) : ErrV W v e p := by
  obtain ⟨b, rfl, h⟩ := h
  obtain ⟨h0, h1, _, _⟩ := block2 h
  exact .at b e p h0 h1
theorem errv_of {W : World} {s : ByteArray} {v : Value} {e pl : Int} (h : (s.size ≤ 2000 ∧ PErr W v (parseE s).1 (parseE s).2.1) ∨ (2000 < s.size ∧ v = .iface 23 (.int .i64 4))) (he : e = (parseE s).1) (hp : pl = (parseE s).2.1)
    (h4 : 2000 < s.size → e = 4 ∧ pl = -1) : ErrV W v e pl := by
  rcases h with ⟨_, h⟩ | ⟨h1, rfl⟩
  · rw [he, hp]; exact h.errV
  · rw [(h4 h1).1, (h4 h1).2]; exact .bare 4
set_option maxHeartbeats 2000000 in
set_option maxRecDepth 100000 in
theorem parses_law {lo : Nat} (s : ByteArray) (w : World) (hE : EnvF lo w) (hT : EType w) (hm : s.size ≤ 9223372036854775807) :
    Calls Tryz.prog 3 #[.string s] w fun e w' => e = .returned (.bool true) ∧ Below w.heap.size w w' := by
  by_cases hs : 2100 < s.size
  · go_enter Tryz.func3, Tryz.ntmps3
    go_wp2
    go_ret
    exact ⟨rfl, Below.refl _ _⟩
  · have hd : decide ((2100 : Int) < (s.size : Int)) = false := by simp; omega
    have hlo := hE.hi
    have hr : Calls Tryz.prog 4 #[.string s] w (RParseP w s) := by
      by_cases h2 : 2000 < s.size
      · exact rparse_long s w h2 hm
      · exact rparse_any s w hE (by omega)
    have hv : ∀ W, Below w.heap.size w W → Calls Tryz.prog 5 #[.string s] W (ParseV W s) := fun W hb => by
      by_cases h2 : 2000 < s.size
      · exact parsev_long s W h2 hm
      · exact parsev s W (hE.below (hb.mono hE.hi)) (by omega)
    obtain ⟨e, he⟩ : ∃ e, e = (parseE s).1 := ⟨_, rfl⟩
    obtain ⟨pl, hpl⟩ : ∃ pl, pl = (parseE s).2.1 := ⟨_, rfl⟩
    have hat : ∀ (W : World) (v : Value), Below w.heap.size w W → ErrV W v e pl → Calls Tryz.prog 6 #[v, .agg #[.int .i64 e, .int .i64 pl]] W fun en w' => en = .returned (.bool true) ∧ Below W.heap.size W w' := fun W v hb he => by
      have := at_any v e pl e pl W he (hT.below hb hT.pos)
      rwa [atB_same] at this
    unfold RParseP at hr
    rw [← he, ← hpl] at hr
    have HV := Lib.hid hv; have HAT := Lib.hid hat; have HE := Lib.hid hE; have HEE := Lib.hid he; have HPL := Lib.hid hpl
    cases ho : (parseE s).2.2 with
    | none =>
      have hne : e ≠ 0 := by rw [he]; exact parseE_bad ho
      have HR := Lib.hid hr; have HO := Lib.hid ho
      have hl4 : 2000 < s.size → e = 4 ∧ pl = -1 := fun h => by rw [he, hpl]; unfold parseE; rw [if_pos h]; exact ⟨rfl, rfl⟩
      have HL4 := Lib.hid hl4
      clear hr hv hat hE hT he hpl ho hs hl4
      go_enter Tryz.func3, Tryz.ntmps3
      go_wp2_with (first
        | (go_at_call 6; refine (HAT.out _ _ HB3.out HEV.out).mono ?_; rintro r w4 ⟨rfl, hb4⟩; have hx4 := (hb4.block w2.heap.size hl9).trans HX9'.out; obtain ⟨d0, d1, i0, i1⟩ := block2 hx4; clear hx4)
        | (go_at_call 5; refine (HV.out _ HB2.out).mono ?_; rintro r w3 ⟨fv, ev, rfl, hb3, hm3⟩; rw [HO.out] at hm3; obtain ⟨rfl, hev⟩ := hm3; have HEV : Hid (ErrV w3 ev e pl) := Lib.hid (errv_of hev HEE.out HPL.out HL4.out); have hx9 := (hb3.block w2.heap.size (by simp)).trans HX9.out; obtain ⟨y0, y1, z0, z1⟩ := block2 hx9; have HX9' := Lib.hid hx9; have hl9 := (Array.getElem?_eq_some_iff.1 hx9).1; have HB3 := Lib.hid (HB2.out.trans (hb3.mono HB2.out.size)); clear hx9 hb3 hev)
        | (go_at_call 4; refine HR.out.mono ?_; rintro r w2 ⟨p, rfl, hb2, _⟩; have HB2 : Hid (Below w.heap.size w (w2.alloc (.cells #[.int .i64 e, .int .i64 pl] 25))) := Lib.hid (hb2.alloc hb2.size _); have HX9 := Lib.hid (heap_alloc_new w2 (.cells #[.int .i64 e, .int .i64 pl] 25))))
      go_ret
      exact ⟨rfl, HB3.out.trans (hb4.mono HB3.out.size)⟩
    | some A =>
      obtain ⟨h1, h2, hwg⟩ := parseE_zero ho
      have he0 : e = 0 := by rw [he]; exact h1
      have hp0 : pl = -1 := by rw [hpl]; exact h2
      subst he0
      subst hp0
      have hs2 : s.size ≤ 2000 := by
        rcases Nat.lt_or_ge 2000 s.size with h | h
        · exfalso; unfold parseE at ho; rw [if_pos h] at ho; cases ho
        · exact h
      have hwA : wgt A ≤ 10000 := by have := (toks_wf hs2).2; omega
      have HR := Lib.hid hr; have HO := Lib.hid ho; have HTY := Lib.hid hT
      obtain ⟨sb, hsb⟩ : ∃ sb, sb = bs (txt A) := ⟨_, rfl⟩
      have hsbb : (sb.toList == sb.toList) = true := by simp
      have HSB := Lib.hid hsb
      have hrt : ∀ W B, RAst (fun _ => True) W B A → EnvF lo W → Calls Tryz.prog 7 #[ptrP B] W fun en w' => en = .returned (.string sb) ∧ Below W.heap.size W w' := fun W B h hE => by rw [hsb]; exact rtext h hE hwA
      have HRT := Lib.hid hrt
      clear hr hv hat hE hT he hpl ho hs h1 h2 hwg hsb hrt
      go_enter Tryz.func3, Tryz.ntmps3
      go_wp2_with (first
        | (go_at_call 6; refine (HAT.out _ _ HB3.out (ErrV.nil)).mono ?_; rintro r w4 ⟨rfl, hb4⟩; have hx4 := (hb4.block w2.heap.size hl9).trans HX9'.out; obtain ⟨d0, d1, i0, i1⟩ := block2 hx4; clear hx4)
        | (go_at_call 5; refine (HV.out _ HB2.out).mono ?_; rintro r w3 ⟨fv, ev, rfl, hb3, hm3⟩; rw [HO.out] at hm3; obtain ⟨rfl, hvA⟩ := hm3; obtain ⟨t, p', fn, rfl, hmeth, hent, hcall⟩ := vtext (lo := lo) hvA hwA; have hx9 := (hb3.block w2.heap.size (by simp)).trans HX9.out; obtain ⟨y0, y1, z0, z1⟩ := block2 hx9; have HX9' := Lib.hid hx9; have hl9 := (Array.getElem?_eq_some_iff.1 hx9).1; have HB3 := Lib.hid (HB2.out.trans (hb3.mono HB2.out.size)); have HAB3 : Hid (RAst (fun _ => True) w3 B A) := Lib.hid (HAB.out.kept fun b _ hlt => ⟨trivial, (hb3.block b (by simp; omega)).trans (Below.heap_alloc _ _ _ hlt)⟩); rw [← HSB.out] at hcall; have HCALL := Lib.hid hcall; clear hx9 hb3 hvA hcall)
        | (go_at_call 4; refine HR.out.mono ?_; rintro r w2 ⟨p, rfl, hb2, hAst⟩; obtain ⟨B, rfl, hAB⟩ := hAst A HO.out; have HAB := Lib.hid hAB; have HB2 : Hid (Below w.heap.size w (w2.alloc (.cells #[.int .i64 0, .int .i64 (-1)] 25))) := Lib.hid (hb2.alloc hb2.size _); have HX9 := Lib.hid (heap_alloc_new w2 (.cells #[.int .i64 0, .int .i64 (-1)] 25)); clear hAst hAB))
      have HB4 := Lib.hid (HB3.out.trans (hb4.mono HB3.out.size))
      have HAB4 : Hid (RAst (fun _ => True) w4 B A) := Lib.hid (HAB3.out.kept fun b _ hlt => ⟨trivial, hb4.block b hlt⟩)
      refine Calls.mono (HCALL.out _ hb4 (HE.out.below (HB4.out.mono hlo))) ?_
      rintro r w5 ⟨rfl, hb5⟩
      have HB5 := Lib.hid (HB4.out.trans (hb5.mono HB4.out.size))
      have HAB5 : Hid (RAst (fun _ => True) w5 B A) := Lib.hid (HAB4.out.kept fun b _ hlt => ⟨trivial, hb5.block b hlt⟩)
      clear hb4 hb5
      go_wp2_with (go_at_call 7; refine (HRT.out _ _ HAB5.out (HE.out.below (HB5.out.mono hlo))).mono ?_; rintro r w6 ⟨rfl, hb6⟩)
      go_ret
      exact ⟨rfl, HB5.out.trans (hb6.mono HB5.out.size)⟩
end Go.Proofs.YtfjfbiocjloilaaGreatDoor
