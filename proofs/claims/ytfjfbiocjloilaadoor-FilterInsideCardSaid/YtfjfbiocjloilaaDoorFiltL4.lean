/-
  What is proved here: the law FilterInside answers true (11.3).
-/
import Derived.Test.YtfjfbiocjloilaaDoorFiltV5
import Derived.Test.YtfjfbiocjloilaaDoorFiltI3
import Derived.Test.YtfjfbiocjloilaaDoorFiltI5
namespace Go.Proofs.YtfjfbiocjloilaaDoor
open Go.RowKit Go.Sort

theorem parseE_zero {s : ByteArray} {a : Ast} (h : (parseE s).2.2 = some a) : (parseE s).1 = 0 ∧ (parseE s).2.1 = -1 ∧ wgt a ≤ (toks s).length := by
  unfold parseE at h ⊢
  split at h
  · cases h
  · rename_i h0
    rw [if_neg h0]
    split at h
    · cases h
    · rename_i a1 r1 h1
      split at h
      · rename_i h2
        rw [if_pos h2]
        injection h with h3
        subst h3
        have := one_wgt _ _ _ _ h1
        exact ⟨rfl, rfl, by omega⟩
      · cases h
theorem parseE_bad {s : ByteArray} (h : (parseE s).2.2 = none) : (parseE s).1 ≠ 0 := by
  unfold parseE at h ⊢
  split at h
  · rename_i h0; rw [if_pos h0]; simp
  · rename_i h0
    rw [if_neg h0]
    split at h
    · rename_i h1; exact one_err _ _ _ _ h1
    · split at h
      · cases h
      · rename_i h2; rw [if_neg h2]; simp
set_option maxHeartbeats 2000000 in
set_option maxRecDepth 100000 in
theorem inside_law {lo : Nat} (s : ByteArray) (w : World) (hE : EnvF lo w) (hm : s.size ≤ 9223372036854775807) :
    Calls Tryd.prog 3 #[.string s] w fun e w' => e = .returned (.bool true) ∧ Below w.heap.size w w' := by
  by_cases hs : 2000 < s.size
  · go_enter Tryd.func3, Tryd.ntmps3
    go_wp2
    go_ret
    exact ⟨rfl, Below.refl _ _⟩
  · have hd : decide ((2000 : Int) < (s.size : Int)) = false := by simp; omega
    have hlo := hE.hi
    have hr : Calls Tryd.prog 4 #[.string s] w (RParseP w s) := rparse_any s w hE (by omega)
    have hv : ∀ W, Below w.heap.size w W → Calls Tryd.prog 5 #[.string s] W (ParseV W s) := fun W hb => parsev s W (hE.below (hb.mono hE.hi)) (by omega)
    obtain ⟨e, he⟩ : ∃ e, e = (parseE s).1 := ⟨_, rfl⟩
    obtain ⟨pl, hpl⟩ : ∃ pl, pl = (parseE s).2.1 := ⟨_, rfl⟩
    unfold RParseP at hr
    rw [← he, ← hpl] at hr
    have HV := Lib.hid hv; have HE := Lib.hid hE; have HEE := Lib.hid he; have HPL := Lib.hid hpl
    cases ho : (parseE s).2.2 with
    | none =>
      have hne : e ≠ 0 := by rw [he]; exact parseE_bad ho
      have hneb : (e != 0) = true := by simpa using hne
      have HR := Lib.hid hr; have HO := Lib.hid ho
      clear hr hv hE he hpl ho hs
      go_enter Tryd.func3, Tryd.ntmps3
      go_wp2_with (go_at_call 4; refine HR.out.mono ?_; rintro r w2 ⟨p, rfl, hb2, _⟩; have HB2 : Hid (Below w.heap.size w (w2.alloc (.cells #[.int .i64 e, .int .i64 pl] 25))) := Lib.hid (hb2.alloc hb2.size _))
      go_ret
      exact ⟨rfl, HB2.out⟩
    | some A =>
      obtain ⟨h1, h2, hwg⟩ := parseE_zero ho
      have he0 : e = 0 := by rw [he]; exact h1
      have hp0 : pl = -1 := by rw [hpl]; exact h2
      subst he0
      subst hp0
      have hs2 : s.size ≤ 2000 := by omega
      have hwA : wgt (ins false A) ≤ 10000 := by have := (toks_wf hs2).2; have := (ins_wgt false A).2; omega
      have HR := Lib.hid hr; have HO := Lib.hid ho
      obtain ⟨sb, hsb⟩ : ∃ sb, sb = bs (txt (ins false A)) := ⟨_, rfl⟩
      have hsbb : (sb.toList == sb.toList) = true := by simp
      have HSB := Lib.hid hsb
      have hri : ∀ W B, RAst (fun b => b < W.heap.size) W B A → Calls Tryd.prog 7 #[ptrP B, .bool false] W (RInP W.heap.size W (ins false A)) := fun W B h => rinside false h (Nat.le_refl _)
      have hvi : ∀ W v, VAst (fun b => b < W.heap.size) W v A → Calls Tryd.prog 6 #[v] W (RVP W.heap.size W (ins false A)) := fun W v h => vinside _ (Nat.le_refl _) h (Nat.le_refl _)
      have hrt : ∀ W B, RAst (fun _ => True) W B (ins false A) → EnvF lo W → Calls Tryd.prog 8 #[ptrP B] W fun en w' => en = .returned (.string sb) ∧ Below W.heap.size W w' := fun W B h hE => by rw [hsb]; exact rtext h hE hwA
      have hvt := fun (S : Nat → Prop) (W : World) (v : Value) (h : VAst S W v (ins false A)) => vtext (lo := lo) h hwA
      have HRT := Lib.hid hrt; have HRI := Lib.hid hri; have HVI := Lib.hid hvi; have HVT := Lib.hid hvt
      clear hr hv hE he hpl ho hs h1 h2 hwg hsb hrt hri hvi hvt
      go_enter Tryd.func3, Tryd.ntmps3
      go_wp2_with (first
        | (go_at_call 6; refine (HVI.out _ _ HVA.out).mono ?_; rintro r w4 ⟨v4, rfl, hb4, hv4⟩; obtain ⟨t, p', fn, rfl, hmeth, hent, hcall⟩ := HVT.out _ _ _ hv4; have HB4 := Lib.hid (HB3.out.trans (hb4.mono HB3.out.size)); have HAB4 : Hid (RAst (fun _ => True) w4 B A) := Lib.hid (HAB3.out.kept fun b _ hlt => ⟨trivial, hb4.block b hlt⟩); rw [← HSB.out] at hcall; have HCALL := Lib.hid hcall; clear hb4 hv4 hcall)
        | (go_at_call 5; refine (HV.out _ HB2.out).mono ?_; rintro r w3 ⟨fv, ev, rfl, hb3, hm3⟩; rw [HO.out] at hm3; obtain ⟨rfl, hvA⟩ := hm3; obtain ⟨ft, fp, rfl⟩ := hvA.iface; have HVA : Hid (VAst (fun b => b < w3.heap.size) w3 (.iface ft fp) A) := Lib.hid (hvA.kept fun b _ hl => ⟨hl, rfl⟩); have HB3 := Lib.hid (HB2.out.trans (hb3.mono HB2.out.size)); have HAB3 : Hid (RAst (fun _ => True) w3 B A) := Lib.hid (HAB.out.kept fun b _ hlt => ⟨trivial, (hb3.block b (by simp; omega)).trans (Below.heap_alloc _ _ _ hlt)⟩); clear hb3 hvA)
        | (go_at_call 4; refine HR.out.mono ?_; rintro r w2 ⟨p, rfl, hb2, hAst⟩; obtain ⟨B, rfl, hAB⟩ := hAst A HO.out; have HAB := Lib.hid hAB; have HB2 : Hid (Below w.heap.size w (w2.alloc (.cells #[.int .i64 0, .int .i64 (-1)] 25))) := Lib.hid (hb2.alloc hb2.size _); clear hAst hAB))
      refine Calls.mono (HCALL.out _ (Below.refl _ _) (HE.out.below (HB4.out.mono hlo))) ?_
      rintro r w5 ⟨rfl, hb5⟩
      have HB5 := Lib.hid (HB4.out.trans (hb5.mono HB4.out.size))
      have HAB5 : Hid (RAst (fun b => b < w5.heap.size) w5 B A) := Lib.hid (HAB4.out.kept fun b _ hlt => ⟨Nat.lt_of_lt_of_le hlt hb5.size, hb5.block b hlt⟩)
      clear hb5
      go_wp2_with (first
        | (go_at_call 8; refine (HRT.out _ _ HAB6.out (HE.out.below (HB6.out.mono hlo))).mono ?_; rintro r w7 ⟨rfl, hb7⟩)
        | (go_at_call 7; refine (HRI.out _ _ HAB5.out).mono ?_; rintro r w6 ⟨B6, rfl, hb6, hA6⟩; have HB6 := Lib.hid (HB5.out.trans (hb6.mono HB5.out.size)); have HAB6 : Hid (RAst (fun _ => True) w6 B6 (ins false A)) := Lib.hid (hA6.kept fun b _ _ => ⟨trivial, rfl⟩); clear hb6 hA6))
      go_ret
      exact ⟨rfl, HB6.out.trans (hb7.mono HB6.out.size)⟩
end Go.Proofs.YtfjfbiocjloilaaDoor
