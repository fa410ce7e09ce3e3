/-
  What is proved here: the statement FilterInsideCardSaid: of whatever input the law answers true, and the input reads as it did. On condition: the listed variables hold what the program's text lays there (the card ties it).
-/
import Derived.Test.YtfjfbiocjloilaaDoorRows
import Derived.Test.YtfjfbiocjloilaaDoorCards
import Derived.Test.YtfjfbiocjloilaaDoorTie
import Derived.Test.YtfjfbiocjloilaaDoorFiltEnv
import Derived.Test.YtfjfbiocjloilaaDoorFiltL4
import Derived.Lib.SmallJoins
import Derived.ProofKit
import Derived.SizedLaws
import Derived.ChangeSame
import Derived.ChangeVars
import Derived.JoinedOf
import Derived.RowKitTokens
import Derived.LaidLaws
import Derived.LaidHandle
import Derived.MakeChecks
import Derived.ChangeMaps5
import Derived.Stop.Joined
namespace Go.Proofs.YtfjfbiocjloilaaDoor
open Go.ChangeShapes Go.WideShapes Go.RowKit Go.Deep

theorem Tryd.own : ownKnob Tryd.prog.godebug = none := by kernel_rfl
theorem Tryd.laidOut : laidOutB Tryd.prog = true := by kernel_rfl
theorem laid_plain (W : World) : laidMetH Tryd.prog laidL W = laidMet Tryd.prog laidL W := MakeChecks.laidMetH_plain _ _ _ (by kernel_rfl)

set_option maxRecDepth 100000 in
theorem law_lifted (os : Os) (started : os.Started) (H : Type) (enc : TypeId × Value → H) :
    ReturnsInHanded {} Tryd.checked os 3 .any (fun w args => (Rows.filterInsideSpec.pre enc Tryd.prog Tryd.f3 [] false w args ∧ laidMetH Tryd.prog laidL w) ∧ sizedMet enc Tryd.prog Tryd.f3 (OpenSpec.ofChange Rows.filterInsideSpec) false w args)
      (Rows.filterInsideSpec.post enc Tryd.prog Tryd.f3 false true false false) := by
  refine returnsInHanded_of_calls (C := Tryd.checked) Tryd.own started (by kernel_rfl)
    (ChangeSpec.witness_shaped (enc := enc) (C := Tryd.checked) (os := os) (X := fun w _ => laidMetH Tryd.prog laidL w) false (laidWorld os) #[.string ⟨#[]⟩] 8 rfl (World.shaped_of_RefB (by kernel_rfl) (by kernel_rfl)) (by kernel_rfl) (by kernel_rfl) (by kernel_rfl) (by rw [laid_plain]; exact laidWorld_met os _)) ?_
  intro w0 tape inp _ hsh _ hok hpre _
  obtain ⟨_, _, _, fn', hfn', _, _, _, _, hval0⟩ := hok
  have efn : fn' = Tryd.f3 := Option.some.inj (hfn'.symm.trans Tryd.func3)
  subst efn
  obtain ⟨⟨⟨ds, gs, before, hw, _⟩, hX⟩, _⟩ := hpre
  obtain ⟨W, hWW⟩ : ∃ W, W = w0.forCall tape inp := ⟨_, rfl⟩
  have hW : DataW.Whole enc Tryd.prog Tryd.f3.params.toList Rows.filterInsideSpec.vars false W inp.args.toList ds gs before := DataW.Whole.of_heap (by rw [hWW]; rfl) hw
  have hL : laidMet Tryd.prog laidL W := by rw [← laid_plain]; exact laidMetH.of_heap (by rw [hWW]; rfl) hX
  have hval : ∀ (j : Nat) t v, Tryd.f3.params[j]? = some t → inp.args[j]? = some v → Value.okWide Tryd.prog W .any w0.heap.size t v := by rw [hWW]; exact hval0
  have HE := envf_of_laid hL (by rw [hWW]; exact hsh)
  obtain ⟨args, hargs⟩ : ∃ args, args = inp.args := ⟨_, rfl⟩
  rw [← hargs] at hW hval
  rw [← hWW, ← hargs]
  suffices hS : Calls Tryd.prog 3 args W fun e W' => ∃ v, e = .returned v ∧ Rows.filterInsideSpec.post enc Tryd.prog Tryd.f3 false true false false W args v W' from
    hS.mono fun e W' ⟨v, he, hp⟩ => by subst he; exact ChangeSpec.post_blind hp
  have hW' := hW
  obtain ⟨p, q, hA0, hV, rfl, _, _⟩ := hW
  have hA : DataW.TrodAll enc Tryd.prog W 0 (fun _ => true) true Tryd.f3.params.toList args.toList ds p := hA0
  rw [Tryd.params3] at hA hval
  obtain ⟨rfl, rfl⟩ := trodVars_none hV
  obtain ⟨v0, d0, rfl, rfl, h0⟩ := trodAll_one hA
  obtain ⟨p0, hp0⟩ : ∃ p0, p0 = p := ⟨_, rfl⟩
  subst hp0
  have hk0 := h0
  obtain ⟨s0, rfl, rfl, rfl, hs0⟩ := ChangeMaps.open_string Tryd.underlying9 (hval 0 9 v0 rfl rfl) h0
  refine (inside_law s0 W HE (by unfold maxLen at hs0; exact hs0)).mono fun e W' ⟨he, hb⟩ => ?_
  subst he
  have e1 : Rows.filterInsideSpec.fn H ([.lit (.string s0.data.toList)] ++ []) = { results := [.lit (.bool true)], args := [.lit (.string s0.data.toList)] } := by simp [Rows.filterInsideSpec]
  refine ⟨_, rfl, _, _, _, [], [], [], hW', ?_, ?_, by rw [e1]; rfl, hb.frame _, fun h => by cases h⟩
  · rw [e1]; exact trodAll_mk1 (shut_bool Tryd.underlying4 true)
  · rw [e1]; exact trodAll_mk1 (Below.trod Tryd.laidOut (by kernel_rfl) (of_decide_eq_true (by kernel_rfl)) hk0 hb (fun y hy => by cases hy))

theorem the_row : Rows.FilterInsideSaid :=
  OpenClaim.holds_of_wide 3 Tryd.f3 rfl rfl rfl rfl rfl rfl rfl ⟨rfl, rfl, rfl, rfl, rfl⟩ rfl rfl rfl rfl rfl (by kernel_rfl) Tryd.func3 (by kernel_rfl)
    (of_decide_eq_true (by kernel_rfl)) (by unfold Func.isWrapper; rw [if_neg (of_decide_eq_false (by kernel_rfl))]; exact ⟨rfl, rfl⟩)
    (fun os started H enc _ => law_lifted os started H enc)

theorem the_card : Rows.FilterInsideCardSaid :=
  Claim7.holds_tied_plain_at .later [] [.data, .data, .data, .sentinel, .sentinel, .data, .data, .data] true _ true
    the_row (fun _ h => by cases h) (by kernel_rfl) (fun _ h => by cases h) filterInside_row_tie rfl ⟨rfl, rfl⟩ (by kernel_rfl) rfl
    (fun f fn hf hfn => by
      obtain rfl : f = 3 := Option.some.inj ((show Tryd.prog.funcNamed "millrace/millracelaw.FilterInside" = some 3 by kernel_rfl).symm.trans hf) |>.symm
      obtain rfl : fn = Tryd.f3 := (Option.some.inj (Tryd.func3.symm.trans hfn)).symm
      exact ⟨by kernel_rfl, fun j t ht => by
        rw [Tryd.params3] at ht
        have h3 : t = 9 := by
          rcases j with _ | j
          · simpa using ht.symm
          · simp at ht
        rcases h3 with rfl
        · exact (show Tryd.prog.wantsStandIn 9 = false by kernel_rfl)⟩)
    (by kernel_rfl)
end Go.Proofs.YtfjfbiocjloilaaDoor
