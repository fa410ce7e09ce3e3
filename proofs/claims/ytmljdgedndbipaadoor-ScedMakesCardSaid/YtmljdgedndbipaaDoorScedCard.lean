/-
  What is proved here: the statement ScedMakesCardSaid: of whatever flows and ticks the law answers true, and they read as they did. On condition: errors.errorType holds what the program's text lays there (the card ties it).
-/
import Derived.Test.YtmljdgedndbipaaDoorRows
import Derived.Test.YtmljdgedndbipaaDoorCards
import Derived.Test.YtmljdgedndbipaaDoorTie
import Derived.Test.YtmljdgedndbipaaDoorScedW10
import Derived.ProofKit
import Derived.SizedLaws
import Derived.ChangeSame
import Derived.ChangeVars
import Derived.JoinedOf
import Derived.RowKitTokens
import Derived.LaidLaws
import Derived.LaidHandle
import Derived.Stop.Joined
import Derived.Deep.SlicePairs
namespace Go.Proofs.YtmljdgedndbipaaDoor
open Go.ChangeShapes Go.WideShapes Go.RowKit Go.Deep

theorem Tryd.own : ownKnob Tryd.prog.godebug = none := by kernel_rfl
theorem Tryd.laidOut : laidOutB Tryd.prog = true := by kernel_rfl
theorem Tryd.et : Tryd.prog.globalNamed "errors.errorType" = some 0 := by kernel_rfl
theorem Tryd.rt : (Tryd.prog.cutTypes.find? (·.1 == "internal/reflectlite.rtype")).map (·.2) = some 90 := by kernel_rfl
theorem Tryd.oneRow : ((List.range 131).filter fun t => Tryd.prog.rowNamed t [101, 114, 114, 111, 114]) = [37] := by kernel_rfl
theorem Tryd.size : Tryd.prog.types.size = 131 := by kernel_rfl

abbrev laidL : List (String × DataW Unit) := [("errors.errorType", Rows.laid_errors_errorType)]
/-- What the condition gives a walk. -/
theorem etype_of_laid {W : World} (h : laidMetH Tryd.prog laidL W) : EType W := by
  have h' : laidMet Tryd.prog [] W ∧ handlesMet Tryd.prog laidL W := h
  obtain ⟨name, u, ty, e1, e2, e3, e4, e5⟩ := h'.2 _ (List.mem_singleton.2 rfl)
  have en : name = [101, 114, 114, 111, 114] := (Option.some.inj e1).symm
  subst en
  obtain rfl := Option.some.inj (Tryd.rt.symm.trans e2)
  have hm : ty ∈ (List.range 131).filter fun t => Tryd.prog.rowNamed t [101, 114, 114, 111, 114] := List.mem_filter.2 ⟨List.mem_range.2 (by rw [← Tryd.size]; exact e3), e4⟩
  rw [Tryd.oneRow] at hm
  obtain rfl := List.mem_singleton.1 hm
  have hh : typeHandle Tryd.prog 37 = .pointer (some ⟨1, 37, none⟩) := by kernel_rfl
  rw [hh] at e5
  unfold EType
  simpa using World.var?_cell Tryd.et e5 0

/-- A world that meets the condition. -/
noncomputable def laidWorld (os : Os) : World :=
  let w0 := World.holding Tryd.prog os ⟨#[], #[], []⟩
  { w0 with heap := w0.heap.modify 0 fun
      | .cells _ t frozen => .cells #[.iface 90 (.agg #[.pointer (some ⟨1, 37, none⟩)])] t frozen
      | o => o }
theorem laidWorld_met (os : Os) (args : Array Value) : laidMetH Tryd.prog laidL ((laidWorld os).forCall (fun _ _ => 0) ⟨#[], args, []⟩).memory :=
  laidMetH_of_parts (laidMet_nil _ _) (by kernel_rfl)

theorem Ints.of_trod {H : Type} {enc : TypeId × Value → H} {W : World} {t : TypeId} {fuel : Nat} {cs : List Value} {x : DataW H × List MemPlace} (ht : Tryd.prog.underlying t = some (.slice 3))
    (h : DataW.trod enc Tryd.prog W 0 (fun _ => true) true fuel t cs = some x) : ∃ v zs, cs = [v] ∧ Ints W v zs := by
  rcases open_ints ht Tryd.underlying3 (by kernel_rfl) h with ⟨rfl, _⟩ | ⟨a, len, cap, zs, rfl, _, hl, hm, hz, _, hcell, _⟩
  · exact ⟨_, [], rfl, Ints.nil _⟩
  · simp only [if_true] at hz
    unfold maxLen at hm
    have e : (zs.take len).length = len := by rw [List.length_take]; omega
    refine ⟨_, zs.take len, rfl, some a, cap, by rw [e], by omega, fun h0 => ?_⟩
    rw [e] at h0
    obtain ⟨b, off, spot⟩ := a
    have hspot : spot = none := by simpa [Addr.add] using World.cell?_spot (hcell 0 (by omega))
    subst hspot
    refine ⟨b, off, rfl, fun i hi => ?_⟩
    rw [e] at hi
    have := hcell i (by omega)
    rw [add_plain] at this
    rw [this]
    simp [gi, hi]

theorem Flows.of_trod {H : Type} {enc : TypeId × Value → H} {W : World} {a0 : Option Addr} {len cap fuel : Nat} {d : DataW H} {ps : List MemPlace} (h : DataW.trod enc Tryd.prog W 0 (fun _ => true) true fuel 22 [.slice a0 len cap] = some (d, ps)) :
    ∃ fs : Fl, fs.length = len ∧ Flows W (.slice a0 len cap) fs ∧ (len = 0 ∨ ∃ l s, d = .slice l s ∧ l.length = len) := by
  rcases open_slice_pairs Tryd.underlying22 Tryd.underlying46 (by kernel_rfl) rfl rfl (by kernel_rfl) (by kernel_rfl) h with ⟨e, _⟩ | ⟨a, len', cap', m, n, V0, V1, D0, D1, P0, P1, e, _, hl, hm, hmm, hx, hc⟩
  · cases e
    exact ⟨[], rfl, ⟨none, 0, rfl, by simp, fun h => by simp at h⟩, .inl rfl⟩
  · cases e
    simp only [if_true] at hmm
    subst hmm
    unfold maxLen at hm
    simp only [Prod.mk.injEq] at hx
    obtain ⟨rfl, rfl⟩ := hx
    obtain ⟨q, hq⟩ := choose_lt (α := List Int × List Int) (n := len) (p := fun i q => Ints W (V0 i) q.1 ∧ Ints W (V1 i) q.2) (fun i hi => by
      obtain ⟨_, _, h0, h1⟩ := hc i (by omega)
      obtain ⟨v, zs, e0, i0⟩ := Ints.of_trod Tryd.underlying28 h0
      obtain ⟨v', zs', e1, i1⟩ := Ints.of_trod Tryd.underlying44 h1
      cases e0; cases e1
      exact ⟨(zs, zs'), i0, i1⟩)
    refine ⟨(List.range len).map q, by simp, ⟨some a, m, by simp, by simp; omega, fun h0 => ?_⟩, .inr ⟨_, _, rfl, by simp⟩⟩
    simp only [List.length_map, List.length_range] at h0
    obtain ⟨b, off, spot⟩ := a
    have hspot : spot = none := by simpa [Addr.add] using World.cell?_spot (hc 0 (by omega)).1
    subst hspot
    refine ⟨b, off, rfl, fun i hi => ?_⟩
    simp only [List.length_map, List.length_range] at hi
    obtain ⟨k0, k1, _, _⟩ := hc i (by omega)
    obtain ⟨i0, i1⟩ := hq i hi
    rw [add_plain] at k0 k1
    refine ⟨V0 i, V1 i, k0, k1, ?_, ?_⟩
    · simpa [fC, hi] using i0
    · simpa [fP, hi] using i1

set_option maxRecDepth 100000 in
theorem law_lifted (os : Os) (started : os.Started) (H : Type) (enc : TypeId × Value → H) :
    ReturnsInHanded {} Tryd.checked os 3 .any (fun w args => (Rows.scedMakesSpec.pre enc Tryd.prog Tryd.f3 [] false w args ∧ laidMetH Tryd.prog laidL w) ∧ sizedMet enc Tryd.prog Tryd.f3 (OpenSpec.ofChange Rows.scedMakesSpec) false w args)
      (Rows.scedMakesSpec.post enc Tryd.prog Tryd.f3 false true false false) := by
  refine returnsInHanded_of_change_and (C := Tryd.checked) (X := fun w _ => laidMetH Tryd.prog laidL w) (fun _ _ _ hh h => h.of_heap hh) Tryd.own started (by kernel_rfl) Tryd.func3
    (ChangeSpec.witness_at (enc := enc) (C := Tryd.checked) (os := os) (X := fun w _ => laidMetH Tryd.prog laidL w) false (laidWorld os) #[.slice none 0 0, .int .i64 0] 8 rfl (by kernel_rfl) (by kernel_rfl) (by kernel_rfl) (by kernel_rfl) (by kernel_rfl) (laidWorld_met os _)) ?_
  intro W base args ds gs before hval0 hW _ hsz0 hL _
  have hsz : (DataW.weightsEach Tryd.prog (Tryd.f3.params.toList ++ Rows.scedMakesSpec.plain.varTypes Tryd.prog) (ds ++ gs)).all (· ≤ reachBytes) = true := hsz0
  have hval : ∀ (j : Nat) t v, Tryd.f3.params[j]? = some t → args[j]? = some v → Value.okWide Tryd.prog W .any base t v := hval0
  have hW' := hW
  obtain ⟨p, q, hA0, hV, rfl, _, _⟩ := hW
  have hA : DataW.TrodAll enc Tryd.prog W 0 (fun _ => true) true Tryd.f3.params.toList args.toList ds p := hA0
  rw [Tryd.params3] at hA hval hsz
  obtain ⟨v0, v1, d0, d1, p0, p1, rfl, rfl, rfl, h0, h1⟩ := trodAll_two hA
  obtain ⟨rfl, rfl⟩ := trodVars_none hV
  obtain ⟨x, rfl, rfl, rfl, wx⟩ := open_int Tryd.underlying3 (hval 1 3 v1 rfl rfl) h1
  obtain ⟨a0, len, cap, rfl⟩ := okWide_slice Tryd.underlying22 (hval 0 22 v0 rfl rfl)
  have hE := etype_of_laid hL
  have hlt : ∀ y ∈ p0, y.block < W.heap.size := fun y hy => by simpa using hW'.lt y (by simp [hy])
  have h0k := h0
  obtain ⟨fuel, hf⟩ := h0
  obtain ⟨fs, hfl, hF, hd⟩ := Flows.of_trod (by simpa [Value.cells] using hf)
  have hreach : fs.length * 48 ≤ 140737488351232 := by
    rcases hd with h | ⟨l, s, rfl, hll⟩
    · omega
    · have := sized_slice hsz (j := 0) (t := 22) (e := 46) rfl rfl Tryd.underlying22
      rw [show Tryd.prog.bytesOf 46 = 48 by kernel_rfl] at this
      simp only [reachBytes] at this
      omega
  have hx : -9223372036854775808 ≤ x ∧ x ≤ 9223372036854775807 := by
    have h1 : IntKind.i64.min = -9223372036854775808 := rfl
    have h2 : IntKind.i64.max = 9223372036854775807 := rfl
    simp only [Lit.wf, Bool.and_eq_true, decide_eq_true_eq] at wx
    omega
  refine (law_any _ fs x W hF hreach hE hx.1 hx.2).mono fun e W' ⟨he, hb⟩ => ?_
  subst he
  have e1 : Rows.scedMakesSpec.fn H ([d0, .lit (.int .i64 x)] ++ []) = { results := [.lit (.bool true)], args := [d0, .lit (.int .i64 x)] } := by simp [Rows.scedMakesSpec]
  refine ⟨_, rfl, _, _, _, [], p0 ++ [], [], hW', ?_, ?_, by rw [e1]; rfl, hb.frame _, fun h => by cases h⟩
  · rw [e1]; exact trodAll_mk1 (shut_bool Tryd.underlying4 true)
  · rw [e1]; exact trodAll_mk2 (Below.trod Tryd.laidOut (by kernel_rfl) (of_decide_eq_true (by kernel_rfl)) h0k hb hlt) (shut_int Tryd.underlying3 wx)

theorem sced_row : Rows.ScedMakesSaid :=
  OpenClaim.holds_of_wide 3 Tryd.f3 rfl rfl rfl rfl rfl rfl rfl ⟨rfl, rfl, rfl, rfl, rfl⟩ rfl rfl rfl rfl rfl (by kernel_rfl) Tryd.func3 (by kernel_rfl)
    (of_decide_eq_true (by kernel_rfl)) (by unfold Func.isWrapper; rw [if_neg (of_decide_eq_false (by kernel_rfl))]; exact ⟨rfl, rfl⟩)
    (fun os started H enc _ => law_lifted os started H enc)

theorem sced_makes : Rows.ScedMakesCardSaid :=
  Claim7.holds_tied_plain_at .later [] [.handle] true _ true
    sced_row (fun _ h => by cases h) (by kernel_rfl) (fun _ h => by cases h) scedMakes_row_tie rfl ⟨rfl, rfl⟩ (by kernel_rfl) rfl
    (fun f fn hf hfn => by
      obtain rfl : f = 3 := Option.some.inj ((show Tryd.prog.funcNamed "millrace/millracelaw.ScedMakes" = some 3 by kernel_rfl).symm.trans hf) |>.symm
      obtain rfl : fn = Tryd.f3 := (Option.some.inj (Tryd.func3.symm.trans hfn)).symm
      exact ⟨by kernel_rfl, fun j t ht => by
        rw [Tryd.params3] at ht
        have h3 : t = 22 ∨ t = 3 := by
          rcases j with _ | _ | j
          · left; simpa using ht.symm
          · right; simpa using ht.symm
          · simp at ht
        rcases h3 with rfl | rfl
        · exact (show Tryd.prog.wantsStandIn 22 = false by kernel_rfl)
        · exact (show Tryd.prog.wantsStandIn 3 = false by kernel_rfl)⟩)
    (by kernel_rfl)
end Go.Proofs.YtmljdgedndbipaaDoor
