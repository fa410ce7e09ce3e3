/-
  What is proved here: the statement FilterFirstCardSaid: of whatever input the law answers true, and the input reads as it did. On condition: the listed variables hold what the program's text lays there (the card ties it).
-/
import Derived.Test.YtkijaminnalfgaaDoorRows
import Derived.Test.YtkijaminnalfgaaDoorCards
import Derived.Test.YtkijaminnalfgaaDoorTie
import Derived.Test.YtkijaminnalfgaaDoorFiltEnv
import Derived.Test.YtkijaminnalfgaaDoorFiltL2
import Derived.Lib.SmallJoins
import Derived.ProofKit
import Derived.SizedLaws
import Derived.ChangeSame
import Derived.ChangeVars
import Derived.JoinedOf
import Derived.RowKitTokens
import Derived.LaidLaws
import Derived.LaidHandle
import Derived.MakeChecks
import Derived.ChangeMaps5
import Derived.Stop.Joined
namespace Go.Proofs.YtkijaminnalfgaaDoor
open Go.ChangeShapes Go.WideShapes Go.RowKit Go.Deep

theorem Tryd.own : ownKnob Tryd.prog.godebug = none := by kernel_rfl
theorem Tryd.laidOut : laidOutB Tryd.prog = true := by kernel_rfl
theorem laid_plain (W : World) : laidMetH Tryd.prog laidL W = laidMet Tryd.prog laidL W := MakeChecks.laidMetH_plain _ _ _ (by kernel_rfl)
set_option maxRecDepth 100000 in
/-- A packet that came in. -/
theorem open_item {H : Type} {enc : TypeId × Value → H} {W : World} {r : Reach} {b0 base : Nat} {spare : Nat → Bool} {held : Bool} {v : Value} {d : DataW H} {p : List MemPlace}
    (hv : Value.okWide Tryd.prog W r b0 23 v) (h : DataW.Trod enc Tryd.prog W base spare held 23 v d p) : ∃ a : Nat → Int, v = xv a := by
  obtain ⟨cs, rfl, hsz⟩ := okWide_struct Tryd.underlying23 hv
  have hc5 : Tryd.prog.cellsOf 23 = 5 := by kernel_rfl
  have hci : Tryd.prog.cellsOf 3 = 1 := by kernel_rfl
  obtain ⟨fuel, hf⟩ := h
  obtain ⟨xs, n, _, hx, hcl, hlen, hg⟩ := DataW.trod_struct Tryd.underlying23 hf
  have key : ∀ i : Nat, i < 5 → (∃ f : Field, f.type = 3 ∧ f.offset = i ∧ DataW.trod enc Tryd.prog W base spare held n f.type (List.take (Tryd.prog.cellsOf f.type) (List.drop f.offset (Value.agg cs).cells.toList)) = xs[i]?) → ∃ z, cs.toList[i]? = some (.int .i64 z) := by
    rintro i hi ⟨f, h1, h2, h3⟩
    rw [h1, h2, hci] at h3
    have hxl : xs.length = 5 := hlen
    rw [List.getElem?_eq_getElem (by omega)] at h3
    obtain ⟨z, h4, _⟩ := DataW.trod_int Tryd.underlying3 h3
    refine ⟨z, ?_⟩
    have h5 := congrArg (·[0]?) h4
    simpa [List.getElem?_take, List.getElem?_drop, Value.cells] using h5
  obtain ⟨z0, h0⟩ := key 0 (by omega) ⟨_, rfl, rfl, hg 0 _ rfl⟩
  obtain ⟨z1, h1⟩ := key 1 (by omega) ⟨_, rfl, rfl, hg 1 _ rfl⟩
  obtain ⟨z2, h2⟩ := key 2 (by omega) ⟨_, rfl, rfl, hg 2 _ rfl⟩
  obtain ⟨z3, h3⟩ := key 3 (by omega) ⟨_, rfl, rfl, hg 3 _ rfl⟩
  obtain ⟨z4, h4⟩ := key 4 (by omega) ⟨_, rfl, rfl, hg 4 _ rfl⟩
  refine ⟨fun i => match i with | 0 => z0 | 1 => z1 | 2 => z2 | 3 => z3 | _ => z4, ?_⟩
  unfold xv
  have hs5 : cs.size = 5 := hsz.trans hc5
  cases cs with | mk l =>
  simp only [List.size_toArray] at hs5
  match l, hs5 with
  | [c0, c1, c2, c3, c4], _ =>
    simp at h0 h1 h2 h3 h4
    rw [h0, h1, h2, h3, h4]
    rfl
set_option maxRecDepth 100000 in
/-- Texts that came in. -/
theorem open_texts {H : Type} {enc : TypeId × Value → H} {W : World} {r : Reach} {b0 : Nat} {v : Value} {d : DataW H} {p : List MemPlace}
    (hv : Value.okWide Tryd.prog W r b0 38 v) (h : DataW.Trod enc Tryd.prog W 0 (fun _ => true) true 38 v d p) : ∃ (n : Nat) (tx : Nat → ByteArray), Texts W v n tx := by
  obtain ⟨a0, len, cap, rfl⟩ := okWide_slice Tryd.underlying38 hv
  obtain ⟨fuel, hf⟩ := h
  rcases open_strings Tryd.underlying38 Tryd.underlying9 cells_str (by simpa [Value.cells] using hf) with ⟨e, _⟩ | ⟨a, len', cap', ss, e, _, hl, hm, hsl, _, hcell, hsz⟩
  · cases e
    exact ⟨0, fun _ => ByteArray.empty, none, 0, rfl, by omega, fun h => by omega⟩
  · cases e
    simp only [if_true] at hsl
    unfold maxLen at hm hsz
    refine ⟨len, fun i => ss.getD i ByteArray.empty, some a, cap, rfl, by omega, fun h0 => ?_⟩
    obtain ⟨b, off, spot⟩ := a
    have hspot : spot = none := by simpa [Addr.add] using World.cell?_spot (hcell 0 (by omega))
    subst hspot
    refine ⟨b, off, rfl, fun i hi => ?_⟩
    have h3 := hcell i (by omega)
    rw [WideShapes.add_plain] at h3
    refine ⟨h3, hsz _ ?_⟩
    show ss.getD i ByteArray.empty ∈ ss
    rw [List.getD_eq_getElem?_getD, List.getElem?_eq_getElem (by omega)]
    exact List.getElem_mem _

set_option maxRecDepth 100000 in
theorem law_lifted (os : Os) (started : os.Started) (H : Type) (enc : TypeId × Value → H) :
    ReturnsInHanded {} Tryd.checked os 4 .any (fun w args => (Rows.filterFirstSpec.pre enc Tryd.prog Tryd.f4 [] false w args ∧ laidMetH Tryd.prog laidL w) ∧ sizedMet enc Tryd.prog Tryd.f4 (OpenSpec.ofChange Rows.filterFirstSpec) false w args)
      (Rows.filterFirstSpec.post enc Tryd.prog Tryd.f4 false true false false) := by
  refine returnsInHanded_of_calls (C := Tryd.checked) Tryd.own started (by kernel_rfl)
    (ChangeSpec.witness_shaped (enc := enc) (C := Tryd.checked) (os := os) (X := fun w _ => laidMetH Tryd.prog laidL w) false (laidWorld os) #[.slice none 0 0, .agg #[.int .i64 0, .int .i64 0, .int .i64 0, .int .i64 0, .int .i64 0]] 8 rfl (World.shaped_of_RefB (by kernel_rfl) (by kernel_rfl)) (by kernel_rfl) (by kernel_rfl) (by kernel_rfl) (by rw [laid_plain]; exact laidWorld_met os _)) ?_
  intro w0 tape inp _ hsh _ hok hpre _
  obtain ⟨_, _, _, fn', hfn', _, _, _, _, hval0⟩ := hok
  have efn : fn' = Tryd.f4 := Option.some.inj (hfn'.symm.trans Tryd.func4)
  subst efn
  obtain ⟨⟨⟨ds, gs, before, hw, _⟩, hX⟩, _⟩ := hpre
  obtain ⟨W, hWW⟩ : ∃ W, W = w0.forCall tape inp := ⟨_, rfl⟩
  have hW : DataW.Whole enc Tryd.prog Tryd.f4.params.toList Rows.filterFirstSpec.vars false W inp.args.toList ds gs before := DataW.Whole.of_heap (by rw [hWW]; rfl) hw
  have hL : laidMet Tryd.prog laidL W := by rw [← laid_plain]; exact laidMetH.of_heap (by rw [hWW]; rfl) hX
  have hval : ∀ (j : Nat) t v, Tryd.f4.params[j]? = some t → inp.args[j]? = some v → Value.okWide Tryd.prog W .any w0.heap.size t v := by rw [hWW]; exact hval0
  have HE := envf_of_laid hL (by rw [hWW]; exact hsh)
  obtain ⟨args, hargs⟩ : ∃ args, args = inp.args := ⟨_, rfl⟩
  rw [← hargs] at hW hval
  rw [← hWW, ← hargs]
  suffices hS : Calls Tryd.prog 4 args W fun e W' => ∃ v, e = .returned v ∧ Rows.filterFirstSpec.post enc Tryd.prog Tryd.f4 false true false false W args v W' from
    hS.mono fun e W' ⟨v, he, hp⟩ => by subst he; exact ChangeSpec.post_blind hp
  have hW' := hW
  obtain ⟨p, q, hA0, hV, rfl, _, _⟩ := hW
  have hA : DataW.TrodAll enc Tryd.prog W 0 (fun _ => true) true Tryd.f4.params.toList args.toList ds p := hA0
  rw [Tryd.params4] at hA hval
  obtain ⟨rfl, rfl⟩ := trodVars_none hV
  obtain ⟨v0, v1, d0, d1, p0, p1, rfl, rfl, rfl, h0, h1⟩ := trodAll_two hA
  have hk0 := h0
  obtain ⟨n0, tx0, hrow0⟩ := open_texts (hval 0 38 v0 rfl rfl) h0
  have hlt0 : ∀ y ∈ p0, y.block < W.heap.size := fun y hy => by simpa using hW'.lt y (by simp [hy])
  have hk1 := h1
  obtain ⟨a1, rfl⟩ := open_item (hval 1 23 v1 rfl rfl) h1
  have hlt1 : ∀ y ∈ p1, y.block < W.heap.size := fun y hy => by simpa using hW'.lt y (by simp [hy])
  refine (first_law a1 W HE hrow0).mono fun e W' ⟨he, hb⟩ => ?_
  subst he
  have e1 : Rows.filterFirstSpec.fn H ([d0, d1] ++ []) = { results := [.lit (.bool true)], args := [d0, d1] } := by simp [Rows.filterFirstSpec]
  refine ⟨_, rfl, _, _, _, [], (p0 ++ (p1)), [], hW', ?_, ?_, by rw [e1]; rfl, hb.frame _, fun h => by cases h⟩
  · rw [e1]; exact trodAll_mk1 (shut_bool Tryd.underlying4 true)
  · rw [e1]; exact trodAll_mk2 (Below.trod Tryd.laidOut (by kernel_rfl) (of_decide_eq_true (by kernel_rfl)) hk0 hb hlt0) (Below.trod Tryd.laidOut (by kernel_rfl) (of_decide_eq_true (by kernel_rfl)) hk1 hb hlt1)

theorem the_row : Rows.FilterFirstSaid :=
  OpenClaim.holds_of_wide 4 Tryd.f4 rfl rfl rfl rfl rfl rfl rfl ⟨rfl, rfl, rfl, rfl, rfl⟩ rfl rfl rfl rfl rfl (by kernel_rfl) Tryd.func4 (by kernel_rfl)
    (of_decide_eq_true (by kernel_rfl)) (by unfold Func.isWrapper; rw [if_neg (of_decide_eq_false (by kernel_rfl))]; exact ⟨rfl, rfl⟩)
    (fun os started H enc _ => law_lifted os started H enc)

theorem the_card : Rows.FilterFirstCardSaid :=
  Claim7.holds_tied_plain_at .later [] [.data, .data, .data, .sentinel, .sentinel, .data, .data, .data] true _ true
    the_row (fun _ h => by cases h) (by kernel_rfl) (fun _ h => by cases h) filterFirst_row_tie rfl ⟨rfl, rfl⟩ (by kernel_rfl) rfl
    (fun f fn hf hfn => by
      obtain rfl : f = 4 := Option.some.inj ((show Tryd.prog.funcNamed "millrace/millracelaw.FilterFirst" = some 4 by kernel_rfl).symm.trans hf) |>.symm
      obtain rfl : fn = Tryd.f4 := (Option.some.inj (Tryd.func4.symm.trans hfn)).symm
      exact ⟨by kernel_rfl, fun j t ht => by
        rw [Tryd.params4] at ht
        have h3 : t = 38 ∨ t = 23 := by
          rcases j with _ | _ | j
          · left; simpa using ht.symm
          · right; simpa using ht.symm
          · simp at ht
        rcases h3 with rfl | rfl
        · exact (show Tryd.prog.wantsStandIn 38 = false by kernel_rfl)
        · exact (show Tryd.prog.wantsStandIn 23 = false by kernel_rfl)⟩)
    (by kernel_rfl)
end Go.Proofs.YtkijaminnalfgaaDoor
