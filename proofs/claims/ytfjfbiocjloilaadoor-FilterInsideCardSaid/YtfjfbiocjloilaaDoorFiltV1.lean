/-
  What is proved here: the program's filters in memory; its reader: fail, take (11.2).
-/
import Derived.Test.YtfjfbiocjloilaaDoorFiltW6
namespace Go.Proofs.YtfjfbiocjloilaaDoor
open Go.RowKit Go.Sort

mutual
/-- The program's filter v; what lies in memory of it lies in S. -/
def VAst (S : Nat → Prop) (W : World) (v : Value) : Ast → Prop
  | .any => v = .iface 70 (.agg #[])
  | .test f lo hi => v = .iface 80 (.agg #[.int .i64 f, .int .i64 lo, .int .i64 hi, .bool false]) ∧ f < 5 ∧ NumOk lo ∧ NumOk hi
  | .has f lo => v = .iface 80 (.agg #[.int .i64 f, .int .i64 lo, .int .i64 lo, .bool true]) ∧ f < 5 ∧ NumOk lo
  | .not a => ∃ u, v = .iface 54 (.agg #[u]) ∧ VAst S W u a
  | .several o l => LenOk l.length ∧ ∃ g c, v = .iface 57 (.agg #[.slice (some ⟨g, 0, none⟩) l.length c, .bool o]) ∧ S g ∧ VKids S W g 0 l
def VKids (S : Nat → Prop) (W : World) (g i : Nat) : List Ast → Prop
  | [] => True
  | a :: l => (∃ u, W.cell? ⟨g, i, none⟩ = some u ∧ VAst S W u a) ∧ VKids S W g (i + 1) l
end
mutual
theorem VAst.kept {S S' : Nat → Prop} {W W' : World} (hk : ∀ b, S b → b < W.heap.size → S' b ∧ W'.heap[b]? = W.heap[b]?) : ∀ {v : Value} {a : Ast}, VAst S W v a → VAst S' W' v a
  | _, .any, h => by unfold VAst at h ⊢; exact h
  | _, .test .., h => by unfold VAst at h ⊢; exact h
  | _, .has .., h => by unfold VAst at h ⊢; exact h
  | _, .not a, h => by
    unfold VAst at h ⊢
    obtain ⟨u, h1, h2⟩ := h
    exact ⟨u, h1, VAst.kept hk h2⟩
  | _, .several o l, h => by
    unfold VAst at h ⊢
    obtain ⟨h0, g, c, h1, h2, h3⟩ := h
    have hgl : g < W.heap.size := by
      cases l with
      | nil => exact absurd h0.1 (by simp)
      | cons a l =>
        have h5 := h3; unfold VKids at h5; obtain ⟨⟨k, h6, _⟩, _⟩ := h5
        exact World.block_lt_of_cell? W _ h6
    exact ⟨h0, g, c, h1, (hk g h2 hgl).1, VKids.kept hk (hk g h2 hgl).2 h3⟩
theorem VKids.kept {S S' : Nat → Prop} {W W' : World} (hk : ∀ b, S b → b < W.heap.size → S' b ∧ W'.heap[b]? = W.heap[b]?) {g : Nat} (hg : W'.heap[g]? = W.heap[g]?) : ∀ {i : Nat} {l : List Ast}, VKids S W g i l → VKids S' W' g i l
  | _, [], _ => by unfold VKids; trivial
  | i, a :: l, h => by
    unfold VKids at h ⊢
    obtain ⟨⟨u, h1, h2⟩, h3⟩ := h
    exact ⟨⟨u, (World.cell?_of_block hg).trans h1, VAst.kept hk h2⟩, VKids.kept hk hg h3⟩
end

def tokW (ts : List Tok) (i : Nat) : ByteArray := (ts.getD i (⟨#[]⟩, 0)).1
def tokP (ts : List Tok) (i : Nat) : Nat := (ts.getD i (⟨#[]⟩, 0)).2
theorem drop_tok {ts : List Tok} {k : Nat} (h : k < ts.length) : ts.drop k = (tokW ts k, tokP ts k) :: ts.drop (k + 1) := by
  rw [List.drop_eq_getElem_cons h]
  simp only [tokW, tokP, List.getD_eq_getElem?_getD, List.getElem?_eq_getElem h, Option.getD_some]
theorem headIs_drop {ts : List Tok} {k : Nat} (h : k < ts.length) {s : ByteArray} : headIs (ts.drop k) s = decide (tokW ts k = s) := by rw [drop_tok h, headIs_cons]
theorem headIs_end {ts : List Tok} {k : Nat} (h : ¬ k < ts.length) {s : ByteArray} : headIs (ts.drop k) s = false := by rw [List.drop_of_length_le (by omega)]; rfl
theorem drop_tail {ts : List Tok} {k : Nat} : (ts.drop k).tail = ts.drop (k + 1) := by rw [List.tail_drop]
theorem here_drop {ts : List Tok} {k en : Nat} : hereOf (ts.drop k) en = if k < ts.length then tokP ts k else en := by
  by_cases h : k < ts.length
  · rw [drop_tok h, if_pos h]; rfl
  · rw [List.drop_of_length_le (by omega), if_neg h]; rfl
theorem tokW_mem {ts : List Tok} {k : Nat} (h : k < ts.length) : (tokW ts k, tokP ts k) ∈ ts := by
  simp only [tokW, tokP, List.getD_eq_getElem?_getD, List.getElem?_eq_getElem h, Option.getD_some]
  exact List.getElem_mem h
/-- A slice of n one-cell elements outside block R, below T. -/
def RowAt (R T : Nat) (W : World) (v : Value) (n : Nat) (f : Nat → Value) : Prop :=
  ∃ a c, v = .slice a n c ∧ n ≤ c ∧ c ≤ 9223372036854775807 ∧ (0 < n → ∃ b o, a = some ⟨b, o, none⟩ ∧ b ≠ R ∧ b < T ∧ ∀ i, i < n → W.cell? ⟨b, o + i, none⟩ = some (f i))
theorem RowAt.grown {R T n : Nat} {W W' : World} {v : Value} {f : Nat → Value} (h : RowAt R T W v n f) (hg : W.grownBy W' (some R)) : RowAt R T W' v n f := by
  obtain ⟨a, c, rfl, h1, h2, h3⟩ := h
  refine ⟨a, c, rfl, h1, h2, fun h0 => ?_⟩
  obtain ⟨b, o, rfl, hb, hbT, hc⟩ := h3 h0
  exact ⟨b, o, rfl, hb, hbT, fun i hi => hg.cell (hc i hi) (by simpa using hb)⟩
abbrev rdObj (wv pv : Value) (k en : Nat) : Obj := .cells #[wv, pv, .int .i64 k, .int .i64 en] 50 (0, 0)
/-- The program's reader in block R. -/
structure RS (W : World) (R T : Nat) (wv pv : Value) (ts : List Tok) (k en : Nat) : Prop where
  blk : W.heap[R]? = some (rdObj wv pv k en)
  w : RowAt R T W wv ts.length (fun i => .string (tokW ts i))
  p : RowAt R T W pv ts.length (fun i => .int .i64 (tokP ts i))
  wf : ∀ t ∈ ts, t.1.size ≤ 2000 ∧ t.2 ≤ 2000
  len : ts.length ≤ 100000
  le : k ≤ ts.length
theorem RS.lt {W : World} {R T : Nat} {wv pv : Value} {ts : List Tok} {k en : Nat} (h : RS W R T wv pv ts k en) : R < W.heap.size := (Array.getElem?_eq_some_iff.1 h.blk).1
theorem RS.grown {W W' : World} {R T : Nat} {wv pv : Value} {ts : List Tok} {k en : Nat} (h : RS W R T wv pv ts k en) (hg : W.grownBy W' none) : RS W' R T wv pv ts k en :=
  ⟨(hg.block R h.lt (by simp)).trans h.blk, h.w.grown ⟨hg.os, hg.tape, hg.output, hg.size, fun k hk _ => hg.block k hk (by simp)⟩, h.p.grown ⟨hg.os, hg.tape, hg.output, hg.size, fun k hk _ => hg.block k hk (by simp)⟩, h.wf, h.len, h.le⟩
theorem RS.below {W W' : World} {R T : Nat} {wv pv : Value} {ts : List Tok} {k en : Nat} (h : RS W R T wv pv ts k en) (hg : Below W.heap.size W W') : RS W' R T wv pv ts k en :=
  h.grown ⟨hg.os, hg.tape, hg.output, hg.size, fun k hk _ => hg.block k hk⟩
theorem block4 {W : World} {b : Nat} {x y z u : Value} {t : TypeId} (h : W.heap[b]? = some (.cells #[x, y, z, u] t (0, 0))) :
    W.cell? ⟨b, 0, none⟩ = some x ∧ W.cell? ⟨b, 1, none⟩ = some y ∧ W.cell? ⟨b, 2, none⟩ = some z ∧ W.cell? ⟨b, 3, none⟩ = some u ∧ W.frozen? ⟨b, 0, none⟩ = false ∧ W.frozen? ⟨b, 1, none⟩ = false ∧ W.frozen? ⟨b, 2, none⟩ = false ∧ W.frozen? ⟨b, 3, none⟩ = false := by
  refine ⟨?_, ?_, ?_, ?_, ?_, ?_, ?_, ?_⟩ <;> simp [World.cell?, World.frozen?, h]
theorem RS.step {W : World} {R T : Nat} {wv pv : Value} {ts : List Tok} {k en : Nat} (h : RS W R T wv pv ts k en) (hk : k < ts.length) : RS (W.setCell ⟨R, 2, none⟩ (.int .i64 ((k : Int) + 1))) R T wv pv ts (k + 1) en := by
  have g := grownBy_setCell (b := R) (grownBy_refl W _) 2 (.int .i64 ((k : Int) + 1))
  refine ⟨?_, h.w.grown g, h.p.grown g, h.wf, h.len, hk⟩
  have := h.blk
  simp [World.setCell, Array.getElem?_modify, this]
/-- The program's error at a place. -/
def PErr (W : World) (v : Value) (e : Int) (p : Int) : Prop :=
  ∃ b, v = .iface 72 (.pointer (some ⟨b, 0, none⟩)) ∧ W.heap[b]? = some (.cells #[.int .i64 e, .int .i64 p] 73 (0, 0))
def FailV (w : World) (ts : List Tok) (k en : Nat) (e : Int) (r : Ending) (w' : World) : Prop :=
  ∃ b, r = .returned (.iface 72 (.pointer (some ⟨b, 0, none⟩))) ∧ PErr w' (.iface 72 (.pointer (some ⟨b, 0, none⟩))) e (hereOf (ts.drop k) en) ∧ Below w.heap.size w w'
set_option maxHeartbeats 1000000 in
set_option maxRecDepth 100000 in
theorem failp {w : World} {R T : Nat} {wv pv : Value} {ts : List Tok} {k en : Nat} (h : RS w R T wv pv ts k en) (e : Int) :
    Calls Tryd.prog 14 #[ptrP R, .int .i64 e] w (FailV w ts k en e) := by
  obtain ⟨y0, y1, y2, y3, z0, z1, z2, z3⟩ := block4 h.blk
  obtain ⟨a, c, rfl, h1, h2, h3⟩ := h.w
  obtain ⟨a', c', rfl, h1', h2', h3'⟩ := h.p
  have hle := h.le
  have hh := here_drop (ts := ts) (k := k) (en := en)
  have HH := Lib.hid hh
  clear h h3 hh
  obtain ⟨hx, hdef⟩ : ∃ hx, hx = hereOf (ts.drop k) en := ⟨_, rfl⟩
  by_cases hk : k < ts.length
  · obtain ⟨b, o, rfl, hb, hbT, hc⟩ := h3' (by omega)
    have hck := hc k hk
    have HX := Lib.hid (show (hereOf (ts.drop k) en : Int) = tokP ts k by rw [HH.out, if_pos hk])
    have hdk : decide ((k : Int) < ts.length) = true := by simpa using hk
    clear hc h3' hdef
    go_enter Tryd.func14, Tryd.ntmps14
    go_wp2
    go_quiet (fail)
    go_wp2
    go_quiet (fail)
    go_wp2
    go_ret
    exact ⟨_, rfl, ⟨_, rfl, by rw [HX.out]; exact heap_alloc_new _ _⟩, ((Below.refl _ _).alloc (Nat.le_refl _) _).trans ⟨rfl, rfl, rfl, Nat.le_refl _, fun _ _ => rfl⟩⟩
  · have HX := Lib.hid (show (hereOf (ts.drop k) en : Int) = en by rw [HH.out, if_neg hk])
    have hdk : decide ((k : Int) < ts.length) = false := by simpa using hk
    clear h3' hdef
    go_enter Tryd.func14, Tryd.ntmps14
    go_wp2
    go_quiet (fail)
    go_wp2
    go_ret
    exact ⟨_, rfl, ⟨_, rfl, by rw [HX.out]; exact heap_alloc_new _ _⟩, ((Below.refl _ _).alloc (Nat.le_refl _) _).trans ⟨rfl, rfl, rfl, Nat.le_refl _, fun _ _ => rfl⟩⟩

set_option maxHeartbeats 1000000 in
set_option maxRecDepth 100000 in
theorem take_yes {w : World} {R T : Nat} {wv pv : Value} {ts : List Tok} {k en : Nat} (h : RS w R T wv pv ts k en) {s : ByteArray} (hs : headIs (ts.drop k) s = true) :
    Calls Tryd.prog 21 #[ptrP R, .string s] w fun r w' => r = .returned (.bool true) ∧ w.grownBy w' (some R) ∧ RS w' R T wv pv ts (k + 1) en := by
  obtain ⟨y0, y1, y2, y3, z0, z1, z2, z3⟩ := block4 h.blk
  obtain ⟨a, c, rfl, h1, h2, h3⟩ := h.w
  have hlen := h.len
  have H := Lib.hid h
  have hk : k < ts.length := by
    rcases Nat.lt_or_ge k ts.length with h | h
    · exact h
    · rw [headIs_end (by omega)] at hs; cases hs
  rw [headIs_drop hk] at hs
  have he : tokW ts k = s := by simpa using hs
  obtain ⟨b, o, rfl, hb, hbT, hc⟩ := h3 (by omega)
  have hck : w.cell? ⟨b, o + k, none⟩ = some (.string s) := (hc k hk).trans (by show some (Value.string (tokW ts k)) = _; rw [he])
  have hdk : decide ((k : Int) < ts.length) = true := by simpa using hk
  have hse : (s.toList == s.toList) = true := by simp
  have HK := Lib.hid hk
  clear hc h3 hs he h
  go_enter Tryd.func21, Tryd.ntmps21
  go_wp2
  go_quiet (fail)
  go_wp2
  go_ret
  have hdq : ∀ W : World, ∀ q, W.grownBy (W.drewN q) none := fun W q => ⟨rfl, rfl, rfl, Nat.le_refl _, fun _ _ _ => rfl⟩
  have hdq2 : ∀ W : World, ∀ q, W.grownBy (W.drewN q) (some R) := fun W q => ⟨rfl, rfl, rfl, Nat.le_refl _, fun _ _ _ => rfl⟩
  exact ⟨rfl, grownBy_setCell (hdq2 _ _) 2 _, (H.out.grown (hdq _ _)).step HK.out⟩
set_option maxHeartbeats 1000000 in
set_option maxRecDepth 100000 in
theorem take_no {w : World} {R T : Nat} {wv pv : Value} {ts : List Tok} {k en : Nat} (h : RS w R T wv pv ts k en) {s : ByteArray} (hs : headIs (ts.drop k) s = false) :
    Calls Tryd.prog 21 #[ptrP R, .string s] w fun r w' => r = .returned (.bool false) ∧ w.grownBy w' (some R) ∧ RS w' R T wv pv ts k en := by
  obtain ⟨y0, y1, y2, y3, z0, z1, z2, z3⟩ := block4 h.blk
  obtain ⟨a, c, rfl, h1, h2, h3⟩ := h.w
  have hlen := h.len
  have H := Lib.hid h
  have hdq : ∀ W : World, ∀ q, W.grownBy (W.drewN q) none := fun W q => ⟨rfl, rfl, rfl, Nat.le_refl _, fun _ _ _ => rfl⟩
  have hdq2 : ∀ W : World, ∀ q, W.grownBy (W.drewN q) (some R) := fun W q => ⟨rfl, rfl, rfl, Nat.le_refl _, fun _ _ _ => rfl⟩
  have HD := Lib.hid hdq; have HD2 := Lib.hid hdq2
  clear hdq hdq2
  by_cases hk : k < ts.length
  · rw [headIs_drop hk] at hs
    have he : tokW ts k ≠ s := by simpa using hs
    obtain ⟨b, o, rfl, hb, hbT, hc⟩ := h3 (by omega)
    have hck := hc k hk
    have hdk : decide ((k : Int) < ts.length) = true := by simpa using hk
    have hse : ((tokW ts k).toList == s.toList) = false := by rw [str_eq]; simpa using he
    clear hc h3 hs he h
    go_enter Tryd.func21, Tryd.ntmps21
    go_wp2
    go_quiet (fail)
    go_wp2
    go_ret
    exact ⟨rfl, HD2.out _ _, H.out.grown (HD.out _ _)⟩
  · have hdk : decide ((k : Int) < ts.length) = false := by simpa using hk
    clear h3 hs h
    go_enter Tryd.func21, Tryd.ntmps21
    go_wp2
    go_quiet (fail)
    go_wp2
    go_ret
    exact ⟨rfl, HD2.out _ _, H.out.grown (HD.out _ _)⟩
end Go.Proofs.YtfjfbiocjloilaaDoor
