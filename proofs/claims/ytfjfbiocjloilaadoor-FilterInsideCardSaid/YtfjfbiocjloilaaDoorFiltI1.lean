/-
  What is proved here: the document's filter with not ahead of tests alone (11.3).
-/
import Derived.Test.YtfjfbiocjloilaaDoorFiltI0
import Derived.Test.YtfjfbiocjloilaaDoorFiltT2
import Derived.Maps.OwnOps
namespace Go.Proofs.YtfjfbiocjloilaaDoor
open Go.RowKit Go.Sort

section
open Go.Maps (Keyed)
/-- A map's literal lays an entry. -/
theorem wpList_insert_own {H : Type} {P : Program} (w : World) {ops : Array Oper} {rest : List Oper} {o : Oper} {a : Act} {Q : Exit → Act → World → Prop}
    (hg : o.guard = none) (m x v : Operand) (t : TypeId) (hop : o.op = Op.insert t m x v)
    (k e : TypeId) (K : Keyed P k) (ht : P.underlying t = some (.map k e)) (R : Value → Option (DataW H × List MemPlace)) (b n : Nat) (D : DataW H)
    (hm : a.eval m = .map (some b)) (hown : w.ownsMap P k R b n D) (hn : n < maxLen) (key val : Value) (kl : Lit) (hx : a.eval x = key) (hv : a.eval v = val) (hkey : keyOf P k key = some kl)
    (d : DataW H) (ps : List MemPlace) (hval : R val = some (d, ps))
    (hK : ∀ w', w'.ownsMap P k R b (n + 1) (D.put kl d) → w.grownBy w' (some b) → wpList P ops Q rest (a.put o.dst undef) w') :
    wpList P ops Q (o :: rest) a w := by
  refine wpList_plain hg fun K' hK' => ?_
  obtain ⟨w', hrun, r1, r2⟩ := hown.update K ht hn hkey hval
  unfold Oper.wp
  simp [execOp, hop, hm, hx, hv, hrun, Result.andThen]
  exact hK' _ _ (hK w' r1 r2)
theorem plainElem_str_inv {H : Type} {P : Program} {e : TypeId} (he : P.underlying e = some .string) {v : Value} {z : DataW H × List MemPlace} (h : plainElem P e v = some z) : ∃ s, v = .string s ∧ z = (.lit (.string s.data.toList), []) := by
  unfold plainElem at h
  rw [he] at h
  cases v <;> simp at h
  obtain ⟨_, rfl⟩ := h
  exact ⟨_, rfl, rfl⟩
/-- A look-up in an own map of strings. -/
theorem wpList_lookup_own_str {H : Type} {P : Program} (w : World) {ops : Array Oper} {rest : List Oper} {o : Oper} {a : Act} {Q : Exit → Act → World → Prop}
    (hg : o.guard = none) (m x : Operand) (t : TypeId) (hop : o.op = Op.lookup t m x false)
    (k e : TypeId) (K : Keyed P k) (ht : P.underlying t = some (.map k e)) (he : P.underlying e = some .string) (hz : (zeroValue e).run P w = .ok (.string ⟨#[]⟩) w) (b n : Nat) (D : DataW H)
    (hm : a.eval m = .map (some b)) (hown : w.ownsMap P k (plainElem P e) b n D) (key : Value) (kl : Lit) (hx : a.eval x = key) (hkey : keyOf P k key = some kl)
    (hK : ∀ s : ByteArray, D.atKey kl (.lit (.string [])) = .lit (.string s.data.toList) → wpList P ops Q rest (a.put o.dst (.string s)) w) :
    wpList P ops Q (o :: rest) a w := by
  refine wpList_plain hg fun K' hK' => ?_
  obtain ⟨v, ps, hrun, hv⟩ := hown.lookup K ht hz (plainElem_string he (s := ⟨#[]⟩) (Nat.zero_le _)) hkey
  obtain ⟨s, rfl, h2⟩ := plainElem_str_inv he hv
  simp only [Prod.mk.injEq] at h2
  unfold Oper.wp
  simp [execOp, hop, hm, hx, hrun, Result.andThen]
  exact hK' _ _ (hK s h2.1)
end
/-- What comes: a filter in blocks below N or in new ones. -/
def RInP (N : Nat) (w : World) (a : Ast) (e : Ending) (w' : World) : Prop := ∃ B, e = .returned (ptrP B) ∧ Below w.heap.size w w' ∧ RAst (fun b => b < N ∨ w.heap.size ≤ b) w' B a
theorem RAst.here {S : Nat → Prop} {W : World} {B : Nat} {a : Ast} (h : RAst S W B a) : S B := by
  cases a <;> (unfold RAst at h; exact h.1)
theorem RAst.here' {S : Nat → Prop} {W : World} {B : Nat} {a : Ast} (h : RAst S W B a) : ∃ k f lo hi kv, W.heap[B]? = some (fltObj k f lo hi kv) := by
  cases a with
  | any => unfold RAst at h; exact ⟨_, 0, _, _, _, h.2⟩
  | test => unfold RAst at h; exact ⟨_, _, _, _, _, h.2.2.2.2⟩
  | has => unfold RAst at h; exact ⟨_, _, _, _, _, h.2.2.2⟩
  | not => unfold RAst at h; obtain ⟨_, g, c, h1, _⟩ := h; exact ⟨_, 0, _, _, _, h1⟩
  | several => unfold RAst at h; obtain ⟨_, _, g, c, h1, _⟩ := h; exact ⟨_, 0, _, _, _, h1⟩
set_option maxRecDepth 100000 in
/-- A test, as it is or as not of it. -/
theorem rin_leaf {N B : Nat} {a : Ast} {t : Bool} {w : World} {k : ByteArray} {f : Nat} {x y : Int} {kv : Value} (hk : k = kAny ∨ k = kTest ∨ k = kHas) (hh : w.heap[B]? = some (fltObj k f x y kv)) (h : RAst (fun b => b < N) w B a) :
    Calls Tryd.prog 7 #[ptrP B, .bool t] w (RInP N w (if t then .not a else a)) := by
  obtain ⟨f0, f1, f2, f3, f4, e0, e1, e2, e3, e4⟩ := block5 hh
  have H := Lib.hid h
  clear f1 f2 f3 f4 e0 e1 e2 e3 e4 hh h
  have hold : RInP N w a (.returned (ptrP B)) w := ⟨B, rfl, Below.refl _ _, H.out.kept fun b hb _ => ⟨.inl hb, rfl⟩⟩
  have hnew : ∀ g w', Below w.heap.size w w' → w.heap.size ≤ g → ∀ F, w.heap.size ≤ F → (∃ c, w'.heap[F]? = some (fltObj kNot 0 0 0 (.slice (some ⟨g, 0, none⟩) 1 c))) → w'.cell? ⟨g, 0, none⟩ = some (ptrP B) → RInP N w (.not a) (.returned (ptrP F)) w' := fun g w' hb hg F hF hf hc => by
    obtain ⟨c, hf⟩ := hf
    refine ⟨F, rfl, hb, ?_⟩
    unfold RAst
    exact ⟨.inr hF, g, c, hf, .inr hg, B, hc, H.out.kept fun b hb' hl => ⟨.inl hb', hb.block b hl⟩⟩
  have HOLD := Lib.hid hold; have HNEW := Lib.hid hnew
  clear hold hnew
  rcases hk with rfl | rfl | rfl
  all_goals (simp only [kAny, kTest, kHas] at f0)
  all_goals (cases t)
  all_goals (go_enter Tryd.func7, Tryd.ntmps7)
  all_goals (go_wp2)
  all_goals (go_ret)
  all_goals (first | exact HOLD.out | skip)
  all_goals (refine HNEW.out w.heap.size _ (((Below.refl _ _).alloc (Nat.le_refl _) _).alloc (by simp) _) (Nat.le_refl _) _ ?_ ⟨1, ?_⟩ ?_)
  all_goals (first | (simp; done) | (rw [show w.heap.size + 1 = (w.alloc (.cells #[ptrP B] 22)).heap.size by simp]; exact heap_alloc_new _ _) | exact (World.cell?_alloc_some _ _ _ (by rw [cell_new w #[ptrP B] 22 0]; rfl)).trans (cell_new w #[ptrP B] 22 0))
set_option maxRecDepth 100000 in
/-- Of not: what is under it, turned. -/
theorem rin_not {N B g c k : Nat} {a : Ast} {t : Bool} {w : World} (h : w.heap[B]? = some (fltObj kNot 0 0 0 (.slice (some ⟨g, 0, none⟩) 1 c))) (hk : w.cell? ⟨g, 0, none⟩ = some (ptrP k))
    (IH : Calls Tryd.prog 7 #[ptrP k, .bool (!t)] w (RInP N w a)) :
    Calls Tryd.prog 7 #[ptrP B, .bool t] w (RInP N w a) := by
  obtain ⟨f0, f1, f2, f3, f4, e0, e1, e2, e3, e4⟩ := block5 h
  have f0l : w.cell? ⟨B, 0, none⟩ = some (.string ⟨#[110, 111, 116]⟩) := f0
  have HI := Lib.hid IH
  clear f0 h e0 e1 e2 e3 e4 IH
  go_enter Tryd.func7, Tryd.ntmps7
  go_wp2_with (go_at_call 7; refine HI.out.mono ?_; rintro r w2 ⟨B2, rfl, hb2, hA⟩)
  go_ret
  exact ⟨B2, rfl, hb2, hA⟩
/-- The document's map of two words. -/
abbrev twoL : DataW Unit := ((DataW.map []).put (.string kAnd.data.toList) (.lit (.string kOr.data.toList))).put (.string kOr.data.toList) (.lit (.string kAnd.data.toList))
theorem two_and {s : ByteArray} (h : twoL.atKey (.string kAnd.data.toList) (.lit (.string [])) = .lit (.string s.data.toList)) : s = kOr := by
  have h2 : twoL.atKey (.string kAnd.data.toList) (.lit (.string [])) = .lit (.string kOr.data.toList) := by kernel_rfl
  rw [h2] at h
  injection h with h; injection h with h
  exact bytes_ext.2 h.symm
theorem two_or {s : ByteArray} (h : twoL.atKey (.string kOr.data.toList) (.lit (.string [])) = .lit (.string s.data.toList)) : s = kAnd := by
  have h2 : twoL.atKey (.string kOr.data.toList) (.lit (.string [])) = .lit (.string kAnd.data.toList) := by kernel_rfl
  rw [h2] at h
  injection h with h; injection h with h
  exact bytes_ext.2 h.symm
end Go.Proofs.YtfjfbiocjloilaaDoor
