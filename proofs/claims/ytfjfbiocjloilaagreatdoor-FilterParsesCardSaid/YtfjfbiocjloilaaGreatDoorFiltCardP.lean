/-
  What is proved here: the statement FilterParsesCardSaid: of whatever input the law answers true, and the input reads as it did. On condition: the listed variables hold what the program's text lays there (the card ties it).
-/
import Derived.Test.YtfjfbiocjloilaaGreatDoorRows
import Derived.Test.YtfjfbiocjloilaaGreatDoorCards
import Derived.Test.YtfjfbiocjloilaaGreatDoorTie
import Derived.Test.YtfjfbiocjloilaaGreatDoorFiltEnv
import Derived.Test.YtfjfbiocjloilaaGreatDoorFiltL3
import Derived.Lib.SmallJoins
import Derived.ProofKit
import Derived.SizedLaws
import Derived.ChangeSame
import Derived.ChangeVars
import Derived.JoinedOf
import Derived.RowKitTokens
import Derived.LaidLaws
import Derived.LaidHandle
import Derived.LaidSub
import Derived.ChangeMaps5
import Derived.Stop.Joined
namespace Go.Proofs.YtfjfbiocjloilaaGreatDoor
open Go.ChangeShapes Go.WideShapes Go.RowKit Go.Deep

theorem Tryz.own : ownKnob Tryz.prog.godebug = none := by kernel_rfl
theorem Tryz.laidOut : laidOutB Tryz.prog = true := by kernel_rfl
theorem Tryz.et : Tryz.prog.globalNamed "errors.errorType" = some 4 := by kernel_rfl
theorem Tryz.rt : (Tryz.prog.cutTypes.find? (·.1 == "internal/reflectlite.rtype")).map (·.2) = some 123 := by kernel_rfl
theorem Tryz.oneRow : ((List.range 199).filter fun t => Tryz.prog.rowNamed t [101, 114, 114, 111, 114]) = [31] := by kernel_rfl
theorem Tryz.size : Tryz.prog.types.size = 199 := by kernel_rfl
abbrev laidHd : List (String × DataW Unit) := [("errors.errorType", Rows.laid_errors_errorType)]
abbrev laidH : List (String × DataW Unit) := [("math/bits.deBruijn32tab", Rows.laid_math_bits_deBruijn32tab), ("math/bits.deBruijn64tab", Rows.laid_math_bits_deBruijn64tab), ("internal/strconv.uint64pow10", Rows.laid_internal_strconv_uint64pow10), ("errors.errorType", Rows.laid_errors_errorType), ("strconv.ErrRange", Rows.laid_strconv_ErrRange), ("strconv.ErrSyntax", Rows.laid_strconv_ErrSyntax), ("millrace/filter.fields", Rows.laid_millrace_filter_fields), ("millrace/millraceref.fields", Rows.laid_millrace_millraceref_fields), ("millrace/millraceref.Fine", Rows.laid_millrace_millraceref_Fine)]
theorem laid_two (W : World) : laidMetH Tryz.prog laidH W ↔ laidMet Tryz.prog laidL W ∧ handlesMet Tryz.prog laidHd W := by
  rw [laidMetH_iff, show (laidH.filter fun x => x.2.handleName?.isNone) = laidL by kernel_rfl, show (laidH.filter fun x => x.2.handleName?.isSome) = laidHd by kernel_rfl]
theorem etype_of_laid {W : World} (h : handlesMet Tryz.prog laidHd W) : EType W := by
  obtain ⟨name, u, ty, e1, e2, e3, e4, e5⟩ := h _ (List.mem_singleton.2 rfl)
  have en : name = [101, 114, 114, 111, 114] := (Option.some.inj e1).symm
  subst en
  obtain rfl := Option.some.inj (Tryz.rt.symm.trans e2)
  have hm : ty ∈ (List.range 199).filter fun t => Tryz.prog.rowNamed t [101, 114, 114, 111, 114] := List.mem_filter.2 ⟨List.mem_range.2 (by rw [← Tryz.size]; exact e3), e4⟩
  rw [Tryz.oneRow] at hm
  obtain rfl := List.mem_singleton.1 hm
  have hh : typeHandle Tryz.prog 31 = .pointer (some ⟨10, 31, none⟩) := by kernel_rfl
  rw [hh] at e5
  unfold EType
  simpa using World.var?_cell Tryz.et e5 0
/-- A world that meets the condition. -/
noncomputable def handWorld (os : Os) : World :=
  let w0 := World.holding Tryz.prog os ⟨#[], #[], []⟩
  { w0 with heap := w0.heap.modify 4 fun
      | .cells _ t frozen => .cells #[.iface 123 (.agg #[.pointer (some ⟨10, 31, none⟩)])] t frozen
      | o => o }
noncomputable def laidWorldH (os : Os) : World := (handWorld os).layVars Tryz.prog laidL
theorem laidWorldH_os (os : Os) : (laidWorldH os).os = os := World.layVars_os _ _ _
theorem laidWorldH_met (os : Os) (args : Array Value) : laidMetH Tryz.prog laidH ((laidWorldH os).forCall (fun _ _ => 0) ⟨#[], args, []⟩).memory := by
  rw [laid_two]
  refine ⟨?_, handlesMet_of_B (by kernel_rfl)⟩
  have e1 : (laidL.filter fun x => (laidL.map (·.1)).contains x.1) = laidL := by kernel_rfl
  have e2 : (laidL.filter fun x => !(laidL.map (·.1)).contains x.1) = [] := by kernel_rfl
  have h : laidMet Tryz.prog laidL (laidWorldH os) := laidMet_layVars (w0 := handWorld os) (laidL.map (·.1)) [] (by rw [e1]; rfl) (by rw [e1]; kernel_rfl) (by rw [e1]; kernel_rfl) (by rw [e2]; exact LaidIn.none)
  exact h.of_heap (by simp [World.memory, World.forCall, Input.heap])

set_option maxRecDepth 100000 in
theorem law_lifted (os : Os) (started : os.Started) (H : Type) (enc : TypeId × Value → H) :
    ReturnsInHanded {} Tryz.checked os 3 .any (fun w args => (Rows.filterParsesSpec.pre enc Tryz.prog Tryz.f3 [] false w args ∧ laidMetH Tryz.prog laidH w) ∧ sizedMet enc Tryz.prog Tryz.f3 (OpenSpec.ofChange Rows.filterParsesSpec) false w args)
      (Rows.filterParsesSpec.post enc Tryz.prog Tryz.f3 false true false false) := by
  refine returnsInHanded_of_calls (C := Tryz.checked) Tryz.own started (by kernel_rfl)
    (ChangeSpec.witness_shaped (enc := enc) (C := Tryz.checked) (os := os) (X := fun w _ => laidMetH Tryz.prog laidH w) false (laidWorldH os) #[.string ⟨#[]⟩] 8 (laidWorldH_os os) (World.shaped_of_RefB (by kernel_rfl) (by kernel_rfl)) (by kernel_rfl) (by kernel_rfl) (by kernel_rfl) (laidWorldH_met os _)) ?_
  intro w0 tape inp _ hsh _ hok hpre _
  obtain ⟨_, _, _, fn', hfn', _, _, _, _, hval0⟩ := hok
  have efn : fn' = Tryz.f3 := Option.some.inj (hfn'.symm.trans Tryz.func3)
  subst efn
  obtain ⟨⟨⟨ds, gs, before, hw, _⟩, hX⟩, _⟩ := hpre
  obtain ⟨W, hWW⟩ : ∃ W, W = w0.forCall tape inp := ⟨_, rfl⟩
  have hW : DataW.Whole enc Tryz.prog Tryz.f3.params.toList Rows.filterParsesSpec.vars false W inp.args.toList ds gs before := DataW.Whole.of_heap (by rw [hWW]; rfl) hw
  have hLH : laidMetH Tryz.prog laidH W := laidMetH.of_heap (by rw [hWW]; rfl) hX
  obtain ⟨hL, hHd⟩ := (laid_two W).1 hLH
  have HT := etype_of_laid hHd
  have hval : ∀ (j : Nat) t v, Tryz.f3.params[j]? = some t → inp.args[j]? = some v → Value.okWide Tryz.prog W .any w0.heap.size t v := by rw [hWW]; exact hval0
  have HE := envf_of_laid hL (by rw [hWW]; exact hsh)
  obtain ⟨args, hargs⟩ : ∃ args, args = inp.args := ⟨_, rfl⟩
  rw [← hargs] at hW hval
  rw [← hWW, ← hargs]
  suffices hS : Calls Tryz.prog 3 args W fun e W' => ∃ v, e = .returned v ∧ Rows.filterParsesSpec.post enc Tryz.prog Tryz.f3 false true false false W args v W' from
    hS.mono fun e W' ⟨v, he, hp⟩ => by subst he; exact ChangeSpec.post_blind hp
  have hW' := hW
  obtain ⟨p, q, hA0, hV, rfl, _, _⟩ := hW
  have hA : DataW.TrodAll enc Tryz.prog W 0 (fun _ => true) true Tryz.f3.params.toList args.toList ds p := hA0
  rw [Tryz.params3] at hA hval
  obtain ⟨rfl, rfl⟩ := trodVars_none hV
  obtain ⟨v0, d0, rfl, rfl, h0⟩ := trodAll_one hA
  obtain ⟨p0, hp0⟩ : ∃ p0, p0 = p := ⟨_, rfl⟩
  subst hp0
  have hk0 := h0
  obtain ⟨s0, rfl, rfl, rfl, hs0⟩ := ChangeMaps.open_string Tryz.underlying9 (hval 0 9 v0 rfl rfl) h0
  refine (parses_law s0 W HE HT (by unfold maxLen at hs0; exact hs0)).mono fun e W' ⟨he, hb⟩ => ?_
  subst he
  have e1 : Rows.filterParsesSpec.fn H ([.lit (.string s0.data.toList)] ++ []) = { results := [.lit (.bool true)], args := [.lit (.string s0.data.toList)] } := by simp [Rows.filterParsesSpec]
  refine ⟨_, rfl, _, _, _, [], [], [], hW', ?_, ?_, by rw [e1]; rfl, hb.frame _, fun h => by cases h⟩
  · rw [e1]; exact trodAll_mk1 (shut_bool Tryz.underlying4 true)
  · rw [e1]; exact trodAll_mk1 (Below.trod Tryz.laidOut (by kernel_rfl) (of_decide_eq_true (by kernel_rfl)) hk0 hb (fun y hy => by cases hy))

theorem the_row : Rows.FilterParsesSaid :=
  OpenClaim.holds_of_wide 3 Tryz.f3 rfl rfl rfl rfl rfl rfl rfl ⟨rfl, rfl, rfl, rfl, rfl⟩ rfl rfl rfl rfl rfl (by kernel_rfl) Tryz.func3 (by kernel_rfl)
    (of_decide_eq_true (by kernel_rfl)) (by unfold Func.isWrapper; rw [if_neg (of_decide_eq_false (by kernel_rfl))]; exact ⟨rfl, rfl⟩)
    (fun os started H enc _ => law_lifted os started H enc)

theorem the_card : Rows.FilterParsesCardSaid :=
  Claim7.holds_tied_plain_at .later [] [.data, .data, .data, .handle, .sentinel, .sentinel, .data, .data, .data] true _ true
    the_row (fun _ h => by cases h) (by kernel_rfl) (fun _ h => by cases h) filterParses_row_tie rfl ⟨rfl, rfl⟩ (by kernel_rfl) rfl
    (fun f fn hf hfn => by
      obtain rfl : f = 3 := Option.some.inj ((show Tryz.prog.funcNamed "millrace/millracelaw.FilterParses" = some 3 by kernel_rfl).symm.trans hf) |>.symm
      obtain rfl : fn = Tryz.f3 := (Option.some.inj (Tryz.func3.symm.trans hfn)).symm
      exact ⟨by kernel_rfl, fun j t ht => by
        rw [Tryz.params3] at ht
        have h3 : t = 9 := by
          rcases j with _ | j
          · simpa using ht.symm
          · simp at ht
        rcases h3 with rfl
        · exact (show Tryz.prog.wantsStandIn 9 = false by kernel_rfl)⟩)
    (by kernel_rfl)
end Go.Proofs.YtfjfbiocjloilaaGreatDoor
