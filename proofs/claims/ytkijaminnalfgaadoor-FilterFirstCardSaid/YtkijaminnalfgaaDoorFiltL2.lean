/-
  What is proved here: the law FilterFirst answers true (11.3).
-/
import Derived.Test.YtkijaminnalfgaaDoorFiltL1
namespace Go.Proofs.YtkijaminnalfgaaDoor
open Go.RowKit Go.Sort

/-- The first of n that is so, or -1. -/
def FirstIs (n : Nat) (B : Nat → Bool) (r : Int) : Prop := (∃ j, j < n ∧ B j = true ∧ (∀ i, i < j → B i = false) ∧ r = (j : Int)) ∨ ((∀ j, j < n → B j = false) ∧ r = -1)
theorem FirstIs.unique {n : Nat} {B : Nat → Bool} {r r' : Int} (h : FirstIs n B r) (h' : FirstIs n B r') : r = r' := by
  rcases h with ⟨j, h1, h2, h3, rfl⟩ | ⟨h1, rfl⟩ <;> rcases h' with ⟨j', h1', h2', h3', rfl⟩ | ⟨h1', rfl⟩
  · rcases Nat.lt_trichotomy j j' with h | h | h
    · rw [h3' j h] at h2; cases h2
    · rw [h]
    · rw [h3 j' h] at h2'; cases h2'
  · rw [h1' j h1] at h2; cases h2
  · rw [h1 j' h1'] at h2'; cases h2'
  · rfl
theorem FirstIs.lo {n : Nat} {B : Nat → Bool} {r : Int} (h : FirstIs n B r) : -1 ≤ r ∧ r < n := by
  rcases h with ⟨j, h1, _, _, rfl⟩ | ⟨_, rfl⟩ <;> omega
theorem FirstIs.same {n : Nat} {B : Nat → Bool} {r : Int} (h : FirstIs n B r) (hr : 0 ≤ r ∨ B n = false) : FirstIs (n + 1) B r := by
  rcases h with ⟨j, h1, h2, h3, h4⟩ | ⟨h1, h2⟩
  · exact .inl ⟨j, by omega, h2, h3, h4⟩
  · rcases hr with hr | hr
    · omega
    · refine .inr ⟨fun j hj => ?_, h2⟩
      rcases Nat.lt_or_ge j n with h | h
      · exact h1 j h
      · obtain rfl : j = n := by omega
        exact hr
theorem FirstIs.hit {n : Nat} {B : Nat → Bool} {r : Int} (h : FirstIs n B r) (hr : r < 0) (hb : B n = true) : FirstIs (n + 1) B n := by
  rcases h with ⟨j, h1, h2, h3, h4⟩ | ⟨h1, h2⟩
  · omega
  · exact .inl ⟨n, by omega, hb, h1, rfl⟩
/-- A filter or none, that answers b. -/
def OInv (a : Nat → Int) (W : World) (v : Value) (b : Bool) : Prop := (v = .nilIface ∧ b = false) ∨ Inv a W v b
theorem OInv.below {a : Nat → Int} {W W' : World} {v : Value} {b : Bool} (h : OInv a W v b) (hb : Below W.heap.size W W') : OInv a W' v b := by
  rcases h with h | h
  · exact .inl h
  · exact .inr (h.below hb)
set_option maxHeartbeats 2000000 in
set_option maxRecDepth 100000 in
theorem first_any {a : Nat → Int} {n c : Nat} {ad : Option Addr} {B : Nat → Bool} (w : World) (hk : 0 < n → ∃ g, ad = some ⟨g, 0, none⟩ ∧ ∀ j, j < n → ∃ u, w.cell? ⟨g, j, none⟩ = some u ∧ OInv a w u (B j)) (hn : n ≤ 100000) (hc : n ≤ c) :
    Calls Tryd.prog 8 #[.slice ad n c, xv a] w fun e w' => (∃ r : Int, e = .returned (.int .i64 r) ∧ FirstIs n B r) ∧ Below w.heap.size w w' := by
  have HK := Lib.hid hk
  clear hk
  unfold xv
  go_enter Tryd.func8, Tryd.ntmps8
  go_wp2_with fail
  go_loopg [9] n (fun gk kv W => Below w.heap.size w W ∧ W.heap[w.heap.size]? = some (xObj a) ∧ ∃ k : Nat, kv = .int .i64 k ∧ k + gk = n ∧ ∀ j, j < k → B j = false)
  case atStart =>
    exact ⟨(Below.refl _ _).alloc (Nat.le_refl _) _, heap_alloc_new _ _, 0, rfl, by omega, fun j h => by omega⟩
  case round =>
    obtain ⟨hb, hX, k, rfl, hkg, hno⟩ := hrel
    obtain ⟨x0, x1, x2, x3, x4⟩ := xcells hX
    have hxl := (Array.getElem?_eq_some_iff.1 hX).1
    have HB := Lib.hid hb; have HX := Lib.hid hX; have HNO := Lib.hid hno
    clear hX hno hb
    by_cases hlt : k < n
    · obtain ⟨m, rfl⟩ : ∃ m, gk = m + 1 := ⟨gk - 1, by omega⟩
      obtain ⟨g, hg, hk⟩ := HK.out (by omega)
      obtain ⟨u, hu, hi⟩ := hk k hlt
      subst hg
      have hu2 : wr.cell? ⟨g, k, none⟩ = some u := below_cell HB.out hu (World.block_lt_of_cell? w _ hu)
      rcases hi.below HB.out with ⟨rfl, hbf⟩ | hinv
      · have HBF := Lib.hid hbf
        clear hu hi hk hbf
        go_wp2_with fail
        go_roundg m
        case measure => omega
        case rel =>
          refine ⟨HB.out, HX.out, k + 1, by go_num, by omega, fun j hj => ?_⟩
          rcases Nat.lt_or_ge j k with h | h
          · exact HNO.out j h
          · obtain rfl : j = k := by omega
            exact HBF.out
      · obtain ⟨t, p, fn, rfl, hm, he, hcl⟩ := hinv
        have HC := Lib.hid hcl
        clear hcl hu hi hk
        go_wp2_with fail
        refine Calls.mono (HC.out _ (Below.refl _ _)) ?_
        rintro r w2 ⟨rfl, hb2⟩
        have HB3 := Lib.hid (HB.out.trans (hb2.mono HB.out.size)); have HX2 := Lib.hid ((hb2.block _ hxl).trans HX.out)
        clear hb2
        cases hbk : B k with
        | true =>
          have HBK := Lib.hid hbk
          clear hbk
          go_wp2_with fail
          go_ret
          exact ⟨⟨_, rfl, .inl ⟨k, hlt, HBK.out, HNO.out, rfl⟩⟩, HB3.out⟩
        | false =>
          have HBK := Lib.hid hbk
          clear hbk
          go_wp2_with fail
          go_roundg m
          case measure => omega
          case rel =>
            refine ⟨HB3.out, HX2.out, k + 1, by go_num, by omega, fun j hj => ?_⟩
            rcases Nat.lt_or_ge j k with h | h
            · exact HNO.out j h
            · obtain rfl : j = k := by omega
              exact HBK.out
    · obtain rfl : k = n := by omega
      go_wp2_with fail
      go_ret
      exact ⟨⟨_, rfl, .inr ⟨HNO.out, rfl⟩⟩, HB.out⟩
/-- Texts that came in. -/
def Texts (W : World) (v : Value) (n : Nat) (tx : Nat → ByteArray) : Prop :=
  ∃ ad c, v = .slice ad n c ∧ n ≤ 9223372036854775807 ∧ (0 < n → ∃ b o, ad = some ⟨b, o, none⟩ ∧ ∀ i, i < n → W.cell? ⟨b, o + i, none⟩ = some (.string (tx i)) ∧ (tx i).size ≤ 9223372036854775807)
def BF (a : Nat → Int) (tx : Nat → ByteArray) (j : Nat) : Bool := match (parseE (tx j)).2.2 with
  | none => false
  | some A => meant a band A
def ElemOk (S : Nat → Prop) (W : World) (vs : List Value) (j : Nat) : Option Ast → Prop
  | none => vs[j]? = some .nilIface
  | some A => ∃ v, vs[j]? = some v ∧ VAst S W v A
theorem ElemOk.kept {S S' : Nat → Prop} {W W' : World} {vs : List Value} {j : Nat} (hk : ∀ b, S b → b < W.heap.size → S' b ∧ W'.heap[b]? = W.heap[b]?) : ∀ {o : Option Ast}, ElemOk S W vs j o → ElemOk S' W' vs j o
  | none, h => h
  | some _, ⟨v, h1, h2⟩ => ⟨v, h1, h2.kept hk⟩
theorem ElemOk.more {S : Nat → Prop} {W : World} {vs : List Value} {u : Value} {j : Nat} (hj : j < vs.length) : ∀ {o : Option Ast}, ElemOk S W vs j o → ElemOk S W (vs ++ [u]) j o
  | none, h => by unfold ElemOk at h ⊢; rw [List.getElem?_append_left hj]; exact h
  | some _, ⟨v, h1, h2⟩ => ⟨v, by rw [List.getElem?_append_left hj]; exact h1, h2⟩
/-- At the head of the loop over the texts. -/
def FRel (w : World) (a : Nat → Int) (n : Nat) (tx : Nat → ByteArray) (g : Nat) (kv wv iv : Value) (W : World) : Prop :=
  ∃ (k : Nat) (vs : List Value) (want : Int), wv = .int .i64 want ∧ iv = .int .i64 k ∧ k + g = n ∧ Below w.heap.size w W ∧ W.heap[w.heap.size]? = some (xObj a) ∧ W.ownsRow (w.heap.size + 1) tIf 1 kv k vs ∧ vs.length = k ∧
    FirstIs k (BF a tx) want ∧ ∀ j, j < k → ElemOk (KidS w.heap.size kv) W vs j (parseE (tx j)).2.2
/-- One more. -/
theorem FRel.step {w wr W w6 : World} {a : Nat → Int} {n k m g1 cp1 : Nat} {tx : Nat → ByteArray} {kv u : Value} {vs : List Value} {want : Int} (hkm : k + (m + 1) = n) (hB : Below w.heap.size w wr) (hX : wr.heap[w.heap.size]? = some (xObj a))
    (ho : wr.ownsRow (w.heap.size + 1) tIf 1 kv k vs) (hvl : vs.length = k) (hel : ∀ j, j < k → ElemOk (KidS w.heap.size kv) wr vs j (parseE (tx j)).2.2)
    (hbw : Below wr.heap.size wr W) (hu : match (parseE (tx k)).2.2 with
      | none => u = .nilIface
      | some A => VAst (fun b => wr.heap.size ≤ b) W u A)
    (ho6 : w6.ownsRow (w.heap.size + 1) tIf 1 (.slice (some ⟨g1, 0, none⟩) (k + 1) cp1) (k + 1) (vs ++ [u])) (hgr6 : W.grownBy w6 kv.ownBlock) (hat6 : kv.ownBlock = some g1 ∨ g1 = W.heap.size + 1)
    (w7 : World) (h67 : Below w6.heap.size w6 w7) (hf : FirstIs (k + 1) (BF a tx) want) :
    FRel w a n tx m (.slice (some ⟨g1, 0, none⟩) (k + 1) cp1) (.int .i64 want) (.int .i64 ((k + 1 : Nat) : Int)) w7 := by
  have hkv : ∀ b, kv.ownBlock = some b → w.heap.size + 1 ≤ b ∧ b < wr.heap.size := fun b hb => ho.lt b hb
  have hxl := (Array.getElem?_eq_some_iff.1 hX).1
  have hs1 := hbw.size
  have hs2 := hgr6.size
  have hs3 := h67.size
  have hw6 : Below w.heap.size w w6 := (hB.trans (hbw.mono hB.size)).trans ⟨hgr6.os, hgr6.tape, hgr6.output, hgr6.size, fun j hj => hgr6.block j (by omega) (fun e => by have := (hkv j e.symm).1; omega)⟩
  have hg1 : w.heap.size + 1 ≤ g1 := by
    rcases hat6 with h | h
    · exact (hkv _ h).1
    · omega
  refine ⟨k + 1, vs ++ [u], want, rfl, rfl, by omega, hw6.trans (h67.mono hw6.size), ?_, ho6.kept (row := none) ⟨h67.os, h67.tape, h67.output, h67.size, fun j hj _ => h67.block j hj⟩ (.inr (by simp [Value.ownBlock])), by simp [hvl], hf, fun j hj => ?_⟩
  · rw [h67.block _ (by omega), hgr6.block _ (by omega) (fun e => by have := (hkv _ e.symm).1; omega), hbw.block _ hxl]; exact hX
  · have keep : ∀ b, b < W.heap.size → w.heap.size < b → g1 ≠ b → kv.ownBlock ≠ some b → KidS w.heap.size (.slice (some ⟨g1, 0, none⟩) (k + 1) cp1) b ∧ w7.heap[b]? = W.heap[b]? := fun b h1 h2 h3 h4 =>
      ⟨⟨h2, by simpa [Value.ownBlock] using h3⟩, (h67.block b (by omega)).trans (hgr6.block b h1 (fun e => h4 e.symm))⟩
    rcases Nat.lt_or_ge j k with h | h
    · refine ElemOk.more (by omega) ((hel j h).kept fun b hb hlt => ?_)
      obtain ⟨hb1, hb2⟩ := hb
      have hne : g1 ≠ b := fun e => by
        rcases hat6 with h | h
        · exact hb2 (e ▸ h)
        · omega
      have h1 := keep b (by omega) hb1 hne hb2
      exact ⟨h1.1, h1.2.trans (hbw.block b hlt)⟩
    · obtain rfl : j = k := by omega
      have hlast : (vs ++ [u])[j]? = some u := by rw [List.getElem?_append_right (by omega), hvl]; simp
      cases hp : (parseE (tx j)).2.2 with
      | none =>
        rw [hp] at hu
        unfold ElemOk
        rw [hlast, hu]
      | some A =>
        rw [hp] at hu
        refine ⟨u, hlast, hu.kept fun b hb hlt => ?_⟩
        have hb1 : wr.heap.size ≤ b := hb
        exact keep b hlt (by omega) (fun e => by
          rcases hat6 with h | h
          · have := (hkv _ h).2; omega
          · omega) (fun e => by have := (hkv b e).2; omega)
theorem row_slice {W : World} {base e n : Nat} {v : Value} {xs : List Value} (h : W.ownsRow base e 1 v n xs) (hx : xs.length = n) :
    ∃ ad c, v = .slice ad n c ∧ n ≤ c ∧ (0 < n → ∃ g, ad = some ⟨g, 0, none⟩ ∧ ∀ j (hj : j < xs.length), W.cell? ⟨g, j, none⟩ = some xs[j]) := by
  have hh := h
  obtain ⟨hl, h⟩ := h
  rcases h with ⟨rfl, h0⟩ | ⟨g, cap, cur, rfl, hb, hg, hn, hm, hs, ht⟩
  · exact ⟨none, 0, by rw [h0], by omega, fun h => by omega⟩
  · refine ⟨_, cap, rfl, hn, fun hn0 => ?_⟩
    obtain ⟨g', c', he, _, hc⟩ := row_cells hh hn0 hx
    injection he with h1 _ _
    exact ⟨g', h1, hc⟩
set_option maxHeartbeats 4000000 in
set_option maxRecDepth 100000 in
theorem first_law {lo n : Nat} {tv : Value} {tx : Nat → ByteArray} (a : Nat → Int) (w : World) (hE : EnvF lo w) (ht : Texts w tv n tx) :
    Calls Tryd.prog 4 #[tv, xv a] w fun e w' => e = .returned (.bool true) ∧ Below w.heap.size w w' := by
  obtain ⟨ad, c, rfl, hn63, hcl⟩ := ht
  by_cases hn : 10 < n
  · unfold xv
    go_enter Tryd.func4, Tryd.ntmps4
    go_wp2
    go_ret
    exact ⟨rfl, (Below.refl _ _).alloc (Nat.le_refl _) _⟩
  · have hd10 : decide ((10 : Int) < (n : Int)) = false := by simp; omega
    have hlo := hE.hi
    have HE := Lib.hid hE; have HCL := Lib.hid hcl
    clear hE hcl
    unfold xv
    go_enter Tryd.func4, Tryd.ntmps4
    go_wp2_with fail
    go_loopg [5, 6, 7] n (FRel w a n tx)
    case atStart =>
      exact ⟨0, [], -1, rfl, rfl, by omega, (Below.refl _ _).alloc (Nat.le_refl _) _, heap_alloc_new w (xObj a), World.ownsRow_nil _ _ _ _, rfl, .inr ⟨fun j h => by omega, rfl⟩, fun j h => by omega⟩
    case round =>
      obtain ⟨k, vs, want, rfl, rfl, hkg, hB, hX, ho, hvl, hf, hel⟩ := hrel
      have hwl := hf.lo
      obtain ⟨x0, x1, x2, x3, x4⟩ := xcells hX
      have hxl := (Array.getElem?_eq_some_iff.1 hX).1
      by_cases hlt : k < n
      · obtain ⟨m, rfl⟩ : ∃ m, gk = m + 1 := ⟨gk - 1, by omega⟩
        obtain ⟨b, o, rfl, hcs⟩ := HCL.out (by omega)
        obtain ⟨hc1, hsz⟩ := hcs k hlt
        obtain ⟨s, hs⟩ : ∃ s, s = tx k := ⟨_, rfl⟩
        rw [← hs] at hc1 hsz
        have hc2 : wr.cell? ⟨b, o + k, none⟩ = some (.string s) := below_cell hB hc1 (World.block_lt_of_cell? w _ hc1)
        have hbl := World.block_lt_of_cell? w _ hc1
        have HC1 := Lib.hid hc1; have HS := Lib.hid hs; have HB := Lib.hid hB; have HX := Lib.hid hX; have HO := Lib.hid ho; have HVL := Lib.hid hvl; have HF := Lib.hid hf; have HEL := Lib.hid hel
        clear hc1 hs hcs hX ho hvl hf hel
        by_cases hs5 : 500 < s.size
        · go_wp2_with fail
          go_ret
          exact ⟨rfl, HB.out⟩
        · have hs2 : s.size ≤ 2000 := by omega
          have hr := rparse_any s wr (HE.out.below (hB.mono hlo)) hs2
          have hv : ∀ W, Below w.heap.size w W → Calls Tryd.prog 6 #[.string s] W (ParseV W s) := fun W hb => parsev s W (HE.out.below (hb.mono hlo)) hs2
          have HV := Lib.hid hv
          clear hv hB
          obtain ⟨e, he⟩ : ∃ e, e = (parseE s).1 := ⟨_, rfl⟩
          obtain ⟨pl, hpl⟩ : ∃ pl, pl = (parseE s).2.1 := ⟨_, rfl⟩
          have hsz1 : w.heap.size + 1 ≤ wr.heap.size := by omega
          unfold RParseP at hr
          cases hpo : (parseE s).2.2 with
--CASES--
          | none =>
            have hne : e ≠ 0 := by rw [he]; exact parseE_none hpo
            have hne2 : (e == 0) = false := by simpa using hne
            have hbf : BF a tx k = false := by unfold BF; rw [← HS.out, hpo]
            rw [← he, ← hpl, hpo] at hr
            have HR := Lib.hid hr; have HPO := Lib.hid hpo; have HBF := Lib.hid hbf
            clear hr he hpl hpo hbf
            go_wp2_with (first
              | (go_at_call 6; refine (HV.out _ (HB.out.trans (HW3.out.mono HB.out.size))).mono ?_; rintro r w3 ⟨fv, ev, rfl, hb3, hm3⟩; rw [HPO.out] at hm3; obtain ⟨rfl, hev⟩ := hm3)
              | (go_at_call 5; refine HR.out.mono ?_; rintro r w2 ⟨p, rfl, hb2, _⟩; have hs9 : wr.heap.size ≤ w2.heap.size := hb2.size; have HW3 : Hid (Below wr.heap.size wr (w2.alloc (.cells #[.int .i64 e, .int .i64 pl] 27))) := Lib.hid (hb2.alloc hb2.size _); have HX9 := Lib.hid (heap_alloc_new w2 (.cells #[.int .i64 e, .int .i64 pl] 27)); have hq2 := below_cell HW3.out hc2 (by show b < wr.heap.size; omega)))
            obtain ⟨eb, rfl, _⟩ : ∃ eb, ev = .iface 71 (.pointer (some ⟨eb, 0, none⟩)) ∧ True := by
              rcases hev with ⟨_, eb, he, _⟩ | ⟨h1, _⟩
              · exact ⟨eb, he, trivial⟩
              · omega
            clear hev
            have hv3 : VAst (fun b => wr.heap.size ≤ b) w3 (.iface 67 (.agg #[])) .any := by unfold VAst; rfl
            have hW4 : Below wr.heap.size wr w3 := HW3.out.trans (hb3.mono HW3.out.size)
            have hx9 := (hb3.block w2.heap.size (by simp)).trans HX9.out
            obtain ⟨y0, y1, z0, z1⟩ := block2 hx9
            have HV3 := Lib.hid hv3; have HS9 := Lib.hid hs9
            have HW4' := Lib.hid hW4; have HX9' := Lib.hid hx9
            clear hb3 hW4 hx9 hv3 hs9
            go_quiet (fail)
            have hw4 : Below wr.heap.size wr (w3.drewN nq) := HW4'.out.trans ⟨rfl, rfl, rfl, Nat.le_refl _, fun _ _ => rfl⟩
            have hx4 : (w3.drewN nq).heap[w2.heap.size]? = some (.cells #[.int .i64 e, .int .i64 pl] 27 (0, 0)) := HX9'.out
            have hv4 := VAst.kept (S := fun b => wr.heap.size ≤ b) (S' := fun b => wr.heap.size ≤ b) (W := w3) (W' := w3.drewN nq) (fun b hb _ => ⟨hb, rfl⟩) HV3.out
            obtain ⟨w4, hw4e⟩ : ∃ w4, w4 = w3.drewN nq := ⟨_, rfl⟩
            rw [← hw4e] at hw4 hx4 hv4 ⊢
            have hs4 := HS9.out
            have HW4 := Lib.hid hw4; have HX4 := Lib.hid hx4; have HV4 := Lib.hid hv4; have HE4 := Lib.hid hw4e
            have hl9 := (Array.getElem?_eq_some_iff.1 hx4).1
            clear hw4 hx4 hv4 hw4e
            have hkvb : ∀ b, u5.ownBlock = some b → w.heap.size + 1 ≤ b ∧ b < wr.heap.size := fun b hb => HO.out.lt b hb
            have hown : w4.ownsRow (w.heap.size + 1) tIf 1 u5 k vs := HO.out.kept (row := none) ⟨HW4.out.os, HW4.out.tape, HW4.out.output, HW4.out.size, fun j hj _ => HW4.out.block j hj⟩ (by cases u5.ownBlock <;> simp)
            have hsz4 : w.heap.size + 1 ≤ w4.heap.size := by have := HW4.out.size; omega
            have HKV := Lib.hid hkvb
            obtain ⟨yy0, yy1, zz0, zz1⟩ := block2 HX4.out
            clear hkvb y0 y1 z0 z1
            go_wp2_with (at_builtin; refine wpList_append_fresh rfl _ _ 39 rfl (w.heap.size + 1) 31 .nilIface 1 16 Tryd.underlying39 infoIf rfl (by decide) u5 _ _ rfl w4 hown 1 [.nilIface] 0 rfl rfl rfl (by simp [Value.oneCell']) (by decide) (by omega) (by omega) hsz4 ?_; intro g1 cp1 w6 ho6 hgr6 hat6 hlt6; have hx96 := (hgr6.block w2.heap.size hl9 (fun e => by have := (HKV.out _ e.symm).2; omega)).trans HX4.out; obtain ⟨d0, d1, i0, i1⟩ := block2 hx96; have HO6 := Lib.hid ho6; have HGR6 := Lib.hid hgr6; have HAT6 := Lib.hid hat6; clear hx96 ho6 hgr6 hat6)
            go_roundg m
            case measure => omega
            case rel =>
              exact FRel.step hkg HB.out HX.out HO.out HVL.out HEL.out HW4.out (by rw [← HS.out, HPO.out]) HO6.out HGR6.out HAT6.out w6 (Below.refl _ _) (HF.out.same (.inr HBF.out))
          | some A =>
            have he0 : e = 0 := by rw [he]; exact parseE_some hpo
            subst he0
            have hbf : BF a tx k = meant a band A := by unfold BF; rw [← HS.out, hpo]
            rw [← he, ← hpl, hpo] at hr
            have HR := Lib.hid hr; have HPO := Lib.hid hpo; have HBF := Lib.hid hbf
            clear hr he hpl hpo hbf
            obtain ⟨e, he0⟩ : ∃ e : Int, e = 0 := ⟨_, rfl⟩
            go_wp2_with (first
              | (go_at_call 6; refine (HV.out _ (HB.out.trans (HW3.out.mono HB.out.size))).mono ?_; rintro r w3 ⟨fv, ev, rfl, hb3, hm3⟩; rw [HPO.out] at hm3; obtain ⟨rfl, hvA⟩ := hm3; obtain ⟨t, p', rfl⟩ := hvA.iface)
              | (go_at_call 5; refine HR.out.mono ?_; rintro r w2 ⟨p, rfl, hb2, hAst⟩; obtain ⟨B, rfl, hAB⟩ := hAst A rfl; have hs9 : wr.heap.size ≤ w2.heap.size := hb2.size; have HW3 : Hid (Below wr.heap.size wr (w2.alloc (.cells #[.int .i64 0, .int .i64 pl] 27))) := Lib.hid (hb2.alloc hb2.size _); have HX9 := Lib.hid (heap_alloc_new w2 (.cells #[.int .i64 0, .int .i64 pl] 27)); have HAB := Lib.hid hAB; have hq2 := below_cell HW3.out hc2 (by show b < wr.heap.size; omega); clear hAst hAB))
            have hAB3 : RAst (fun b => wr.heap.size ≤ b) w3 B A := HAB.out.kept fun b hb hlt => ⟨hb, (hb3.block b (by simp; omega)).trans (Below.heap_alloc _ _ _ hlt)⟩
            have HAB3 := Lib.hid hAB3
            have hv3 : VAst (fun b => wr.heap.size ≤ b) w3 (.iface t p') A := hvA.kept fun b hb _ => ⟨by have h1 : (w2.alloc (.cells #[.int .i64 0, .int .i64 pl] 27)).heap.size ≤ b := hb; rw [size_alloc] at h1; omega, rfl⟩
            clear hvA hAB3 he0 HAB
            have hW4 : Below wr.heap.size wr w3 := HW3.out.trans (hb3.mono HW3.out.size)
            have hx9 := (hb3.block w2.heap.size (by simp)).trans HX9.out
            obtain ⟨y0, y1, z0, z1⟩ := block2 hx9
            have HV3 := Lib.hid hv3; have HS9 := Lib.hid hs9
            have HW4' := Lib.hid hW4; have HX9' := Lib.hid hx9
            clear hb3 hW4 hx9 hv3 hs9
            go_quiet (fail)
            have hw4 : Below wr.heap.size wr (w3.drewN nq) := HW4'.out.trans ⟨rfl, rfl, rfl, Nat.le_refl _, fun _ _ => rfl⟩
            have hx4 : (w3.drewN nq).heap[w2.heap.size]? = some (.cells #[.int .i64 0, .int .i64 pl] 27 (0, 0)) := HX9'.out
            have hv4 := VAst.kept (S := fun b => wr.heap.size ≤ b) (S' := fun b => wr.heap.size ≤ b) (W := w3) (W' := w3.drewN nq) (fun b hb _ => ⟨hb, rfl⟩) HV3.out
            obtain ⟨w4, hw4e⟩ : ∃ w4, w4 = w3.drewN nq := ⟨_, rfl⟩
            rw [← hw4e] at hw4 hx4 hv4 ⊢
            have hs4 := HS9.out
            have HW4 := Lib.hid hw4; have HX4 := Lib.hid hx4; have HV4 := Lib.hid hv4; have HE4 := Lib.hid hw4e
            have hl9 := (Array.getElem?_eq_some_iff.1 hx4).1
            clear hw4 hx4 hv4 hw4e
            have hkvb : ∀ b, u5.ownBlock = some b → w.heap.size + 1 ≤ b ∧ b < wr.heap.size := fun b hb => HO.out.lt b hb
            have hown : w4.ownsRow (w.heap.size + 1) tIf 1 u5 k vs := HO.out.kept (row := none) ⟨HW4.out.os, HW4.out.tape, HW4.out.output, HW4.out.size, fun j hj _ => HW4.out.block j hj⟩ (by cases u5.ownBlock <;> simp)
            have hsz4 : w.heap.size + 1 ≤ w4.heap.size := by have := HW4.out.size; omega
            have HKV := Lib.hid hkvb
            obtain ⟨yy0, yy1, zz0, zz1⟩ := block2 HX4.out
            clear hkvb y0 y1 z0 z1
            have hAB4 : RAst (fun b => wr.heap.size ≤ b) w4 B A := RAst.kept (S := fun b => wr.heap.size ≤ b) (W := w3) (fun b hb _ => ⟨hb, by rw [HE4.out]; rfl⟩) HAB3.out
            have HAB4 := Lib.hid hAB4
            clear hAB4 HAB3
            by_cases hw0 : want < 0
            · have hwd : decide (want < 0) = true := by simpa using hw0
              cases hmb : meant a band A with
              | true =>
                have HMB := Lib.hid hmb
                go_wp2_with (first
                  | (go_at_call 7; refine (rmeant (a := a) (S := fun _ => True) (HAB6.out)).mono ?_; rintro r w7 ⟨rfl, hb7⟩)
                  | (at_builtin; refine wpList_append_fresh rfl _ _ 39 rfl (w.heap.size + 1) 31 .nilIface 1 16 Tryd.underlying39 infoIf rfl (by decide) u5 _ _ rfl w4 hown 1 [.iface t p'] 0 rfl rfl rfl (by simp [Value.oneCell']) (by decide) (by omega) (by omega) hsz4 ?_; intro g1 cp1 w6 ho6 hgr6 hat6 hlt6; have hx96 := (hgr6.block w2.heap.size hl9 (fun e => by have := (HKV.out _ e.symm).2; omega)).trans HX4.out; obtain ⟨d0, d1, i0, i1⟩ := block2 hx96; have HO6 := Lib.hid ho6; have HGR6 := Lib.hid hgr6; have HAT6 := Lib.hid hat6; clear hx96 ho6 hgr6 hat6; have hx6 := ((HGR6.out.block w.heap.size (by omega) (fun e => by have := (HKV.out _ e.symm).1; omega)).trans (HW4.out.block _ hxl)).trans HX.out; obtain ⟨v0, v1, v2, v3, v4⟩ := xcells hx6; have HAB6 : Hid (RAst (fun _ => True) w6 B A) := Lib.hid (HAB4.out.kept fun b hb hlt => ⟨trivial, HGR6.out.block b hlt (fun e => by have := (HKV.out b e.symm).2; have h1 : wr.heap.size ≤ b := hb; omega)⟩); clear hx6))
                go_roundg m
                case measure => omega
                case rel =>
                  exact FRel.step hkg HB.out HX.out HO.out HVL.out HEL.out HW4.out (by rw [← HS.out, HPO.out]; exact HV4.out) HO6.out HGR6.out HAT6.out w7 hb7 (HF.out.hit hw0 (HBF.out.trans HMB.out))
              | false =>
                have HMB := Lib.hid hmb
                go_wp2_with (first
                  | (go_at_call 7; refine (rmeant (a := a) (S := fun _ => True) (HAB6.out)).mono ?_; rintro r w7 ⟨rfl, hb7⟩)
                  | (at_builtin; refine wpList_append_fresh rfl _ _ 39 rfl (w.heap.size + 1) 31 .nilIface 1 16 Tryd.underlying39 infoIf rfl (by decide) u5 _ _ rfl w4 hown 1 [.iface t p'] 0 rfl rfl rfl (by simp [Value.oneCell']) (by decide) (by omega) (by omega) hsz4 ?_; intro g1 cp1 w6 ho6 hgr6 hat6 hlt6; have hx96 := (hgr6.block w2.heap.size hl9 (fun e => by have := (HKV.out _ e.symm).2; omega)).trans HX4.out; obtain ⟨d0, d1, i0, i1⟩ := block2 hx96; have HO6 := Lib.hid ho6; have HGR6 := Lib.hid hgr6; have HAT6 := Lib.hid hat6; clear hx96 ho6 hgr6 hat6; have hx6 := ((HGR6.out.block w.heap.size (by omega) (fun e => by have := (HKV.out _ e.symm).1; omega)).trans (HW4.out.block _ hxl)).trans HX.out; obtain ⟨v0, v1, v2, v3, v4⟩ := xcells hx6; have HAB6 : Hid (RAst (fun _ => True) w6 B A) := Lib.hid (HAB4.out.kept fun b hb hlt => ⟨trivial, HGR6.out.block b hlt (fun e => by have := (HKV.out b e.symm).2; have h1 : wr.heap.size ≤ b := hb; omega)⟩); clear hx6))
                go_roundg m
                case measure => omega
                case rel =>
                  exact FRel.step hkg HB.out HX.out HO.out HVL.out HEL.out HW4.out (by rw [← HS.out, HPO.out]; exact HV4.out) HO6.out HGR6.out HAT6.out w7 hb7 (HF.out.same (.inr (HBF.out.trans HMB.out)))
            · have hwd : decide (want < 0) = false := by simpa using hw0
              go_wp2_with (at_builtin; refine wpList_append_fresh rfl _ _ 39 rfl (w.heap.size + 1) 31 .nilIface 1 16 Tryd.underlying39 infoIf rfl (by decide) u5 _ _ rfl w4 hown 1 [.iface t p'] 0 rfl rfl rfl (by simp [Value.oneCell']) (by decide) (by omega) (by omega) hsz4 ?_; intro g1 cp1 w6 ho6 hgr6 hat6 hlt6; have hx96 := (hgr6.block w2.heap.size hl9 (fun e => by have := (HKV.out _ e.symm).2; omega)).trans HX4.out; obtain ⟨d0, d1, i0, i1⟩ := block2 hx96; have HO6 := Lib.hid ho6; have HGR6 := Lib.hid hgr6; have HAT6 := Lib.hid hat6; clear hx96 ho6 hgr6 hat6)
              go_roundg m
              case measure => omega
              case rel =>
                exact FRel.step hkg HB.out HX.out HO.out HVL.out HEL.out HW4.out (by rw [← HS.out, HPO.out]; exact HV4.out) HO6.out HGR6.out HAT6.out w6 (Below.refl _ _) (HF.out.same (.inl (by omega)))
      · obtain rfl : k = n := by omega
        obtain ⟨ad', c', rfl, hkc, hcells⟩ := row_slice ho hvl
        have hfirst := first_any (a := a) (B := BF a tx) (c := c') (n := k) (ad := ad') wr (fun h0 => by
          obtain ⟨g, h1, h2⟩ := hcells h0
          refine ⟨g, h1, fun j hj => ?_⟩
          have h3 := h2 j (by omega)
          have h4 := hel j hj
          cases hp : (parseE (tx j)).2.2 with
          | none =>
            rw [hp] at h4
            have h5 : vs[j]? = some .nilIface := h4
            rw [List.getElem?_eq_getElem (by omega)] at h5
            exact ⟨_, h3, .inl ⟨Option.some.inj h5, by unfold BF; rw [hp]⟩⟩
          | some A =>
            rw [hp] at h4
            obtain ⟨v, h5, h6⟩ := h4
            rw [List.getElem?_eq_getElem (by omega)] at h5
            have hb : BF a tx j = meant a band A := by unfold BF; rw [hp]
            exact ⟨_, h3, .inr (by rw [hb, Option.some.inj h5]; exact vmeant h6)⟩) (by omega) hkc
        have HF := Lib.hid hf; have HB := Lib.hid hB; have HFI := Lib.hid hfirst
        clear hf hB hfirst ho hvl hel hcells hX
        go_wp2_with (go_at_call 8; refine HFI.out.mono ?_; rintro r w7 ⟨⟨ri, rfl, hfi⟩, hb7⟩; obtain rfl := hfi.unique HF.out; clear hfi)
        go_ret
        exact ⟨ret_bool (by simp), HB.out.trans (hb7.mono HB.out.size)⟩
end Go.Proofs.YtkijaminnalfgaaDoor
