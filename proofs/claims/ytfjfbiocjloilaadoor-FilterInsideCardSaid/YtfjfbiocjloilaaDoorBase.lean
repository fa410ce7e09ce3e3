/-
  Words for what memory holds: a slice that reads as a list of integers (Ints), small lemmas on worlds. No program in sight.
-/
import Derived.WalkKit
import Derived.WalkLawsBesides
import Derived.WalkSpells
import Derived.WalkSmall
import Derived.Deep.LoopGhost
import Derived.Lib.Hide
import Derived.Deep.OwnRows
import Derived.Laws.CopyOwn
import Derived.Deep.AppendLies
import Derived.Deep.RegionLaw
namespace Go.Proofs.YtfjfbiocjloilaaDoor
open Go.RowKit
theorem ret_int {k : IntKind} {a b : Int} (h : a = b) : Ending.returned (.int k a) = .returned (.int k b) := by rw [h]
theorem ret_bool {a b : Bool} (h : a = b) : Ending.returned (.bool a) = .returned (.bool b) := by rw [h]
theorem ret_val {a b : Value} (h : a = b) : Ending.returned a = .returned b := by rw [h]

/-- Element i (0 beyond). -/
def gi (xs : List Int) (i : Nat) : Int := xs.getD i 0
theorem gi_eq {xs : List Int} {i : Nat} (h : i < xs.length) : gi xs i = xs[i] := by simp [gi, h]
theorem gi_mem {xs : List Int} {i : Nat} (h : i < xs.length) : gi xs i ∈ xs := by rw [gi_eq h]; exact List.getElem_mem h
theorem gi_append_left {xs ys : List Int} {i : Nat} (h : i < xs.length) : gi (xs ++ ys) i = gi xs i := by simp [gi, List.getElem?_append_left h]
theorem gi_append_at {xs ys : List Int} {i : Nat} : gi (xs ++ ys) (xs.length + i) = gi ys i := by
  simp [gi, List.getElem?_append_right]

/-- A slice value that reads as these ints. -/
def Ints (w : World) (v : Value) (xs : List Int) : Prop :=
  ∃ a cap, v = .slice a xs.length cap ∧ xs.length ≤ 9223372036854775807 ∧
    (0 < xs.length → ∃ b off, a = some ⟨b, off, none⟩ ∧ ∀ i, i < xs.length → w.cell? ⟨b, off + i, none⟩ = some (.int .i64 (gi xs i)))

theorem Ints.below {w w' : World} {v : Value} {xs : List Int} {B : Nat} (h : Ints w v xs) (hb : Below B w w') (hB : w.heap.size ≤ B) : Ints w' v xs := by
  obtain ⟨a, cap, rfl, hl, hc⟩ := h
  refine ⟨a, cap, rfl, hl, fun h0 => ?_⟩
  obtain ⟨b, off, rfl, hcell⟩ := hc h0
  refine ⟨b, off, rfl, fun i hi => ?_⟩
  have hlt : b < w.heap.size := World.block_lt_of_cell? w _ (hcell i hi)
  rw [hb.cell (p := ⟨b, off + i, none⟩) (by show b < B; omega)]
  exact hcell i hi
theorem Ints.nil (w : World) : Ints w (.slice none 0 0) [] := ⟨none, 0, rfl, by simp, fun h => by simp at h⟩
/-- What the call itself has built by append reads so. -/
theorem Ints.own {w : World} {base : Nat} {e : TypeId} {v : Value} {xs : List Int} (h : w.ownsRow base e 1 v xs.length (xs.map (Value.int .i64))) : Ints w v xs := by
  obtain ⟨hl, h⟩ := h
  rcases h with ⟨rfl, h0⟩ | ⟨g, cap, cur, rfl, hb, hg, hn, hm, hs, ht⟩
  · refine ⟨none, 0, by rw [h0], by omega, fun h => by omega⟩
  · refine ⟨_, cap, rfl, by unfold maxLen at hm; omega, fun h0 => ⟨g, 0, rfl, fun i hi => ?_⟩⟩
    have h1 : (cur.toList.take (xs.length * 1))[i]? = (xs.map (Value.int .i64))[i]? := by rw [ht]
    rw [Nat.mul_one, List.getElem?_take, if_pos hi] at h1
    simp only [World.cell?, hg, Nat.zero_add]
    rw [gi_eq hi]
    simp at h1
    simpa [hi] using h1

/-! ### append of one integer onto a slice of the call's own -/
theorem grownBy_trans {a b c : World} {row : Option Nat} (h : a.grownBy b row) (k : b.grownBy c row) : a.grownBy c row :=
  ⟨k.os.trans h.os, k.tape.trans h.tape, k.output.trans h.output, Nat.le_trans h.size k.size, fun i hi hr => (k.block i (Nat.lt_of_lt_of_le hi h.size) hr).trans (h.block i hi hr)⟩
theorem wpList_append_int {P : Program} {ops : Array Oper} {Q : Exit → Act → World → Prop} {a : Act} {w : World} {rest : List Oper} {o : Oper}
    (hgd : o.guard = none) (s x : Operand) (t e : TypeId) (ho : o.op = .call { callee := .builtin .append, args := #[s, x], argTypes := #[t, t] })
    (ht : P.underlying t = some (.slice e)) (hinfo : (P.info? e).map (fun i => (i.zero, i.size, i.bytes)) = some (some (.int .i64 0), 1, 8))
    (base : Nat) (v : Value) (xs : List Int) (hs : a.eval s = v) (hown : w.ownsRow base e 1 v xs.length (xs.map (Value.int .i64)))
    (z : Int) (hx : a.eval x = .slice (some ⟨w.heap.size, 0, none⟩) 1 1) (hlen : xs.length ≤ 17592186044000) (hbase : base ≤ w.heap.size)
    (h : ∀ v' w', w'.ownsRow base e 1 v' (xs ++ [z]).length ((xs ++ [z]).map (Value.int .i64)) → w.grownBy w' v.ownBlock → wpList P ops Q rest (a.put o.dst v') w') :
    wpList P ops Q (o :: rest) a (w.alloc (.cells #[.int .i64 z] e)) := by
  obtain ⟨i, hi, hz⟩ := Option.map_eq_some_iff.1 hinfo
  simp only [Prod.mk.injEq] at hz
  obtain ⟨hz1, hz2, hz3⟩ := hz
  refine wpList_append_own _ hgd s x t ho base e i (.int .i64 0) 1 8 ht hi hz1 hz2 hz3 rfl (by decide) v xs.length (xs.map (Value.int .i64)) hs (hown.alloc _) ⟨w.heap.size, 0, none⟩ 1 1 [.int .i64 z] hx rfl ?_ ?_ ?_ ?_ ?_ ?_
  · intro j u hu
    match j with
    | 0 => simp at hu; subst hu; simp [Addr.add]
    | j + 1 => simp at hu
  · intro u hu; simp at hu; subst hu; rfl
  · unfold maxLen; omega
  · omega
  · simp; omega
  · intro v' w' h1 h2 _
    exact h v' w' (by simpa using h1) (grownBy_trans (World.grownBy_alloc w _ _) h2)
theorem grown_below {base : Nat} {w w' : World} {e : TypeId} {size n : Nat} {v : Value} {xs : List Value} (hown : w.ownsRow base e size v n xs) (hg : w.grownBy w' v.ownBlock) (hb : base ≤ w.heap.size) : Below base w w' :=
  (Below.refl _ _).grown hg hb (fun k hk => (hown.lt k hk).1)

/-! ### a made row of zeros, the first cells copied over -/
def padL (xs : List Int) (n : Nat) : List Int := xs ++ List.replicate (n - xs.length) 0
theorem padL_length {xs : List Int} {n : Nat} (h : xs.length ≤ n) : (padL xs n).length = n := by simp [padL]; omega
theorem gi_padL {xs : List Int} {n i : Nat} : gi (padL xs n) i = gi xs i := by
  unfold gi padL
  rcases Nat.lt_or_ge i xs.length with h | h
  · simp [List.getElem?_append_left h]
  · rw [List.getD_eq_getElem?_getD, List.getElem?_append_right h, List.getElem?_replicate]
    split <;> simp [List.getElem?_eq_none h]
theorem madeCells_get (z : Value) (n i : Nat) (h : i < n) : (madeCells #[z] n)[i]? = some z := by simp [madeCells, h, Nat.mod_one]
theorem World.grownBy_setRow (w : World) (g : Nat) (cs : Array Value) : w.grownBy (w.setRow g cs) (some g) :=
  ⟨rfl, rfl, rfl, by simp [World.setRow], fun k _ hk => setRow_other w g k cs (fun e => hk (by rw [e]))⟩
theorem wpList_copy_pad {P : Program} {w : World} {ops : Array Oper} {rest : List Oper} {o : Oper} {a : Act} {Q : Exit → Act → World → Prop} (hgd : o.guard = none) (d s : Operand) (dT sT : TypeId)
    (ho : o.op = .call { callee := .builtin .copy, args := #[d, s], argTypes := #[dT, sT] }) (elem : TypeId) (hu : P.underlying dT = some (.slice elem)) (hsz : (P.info? elem).map (·.size) = some 1)
    (g n : Nat) (xs : List Int) (v : Value) (hd : a.eval d = .slice (some ⟨g, 0, none⟩) n n) (hs : a.eval s = v) (hv : Ints w v xs)
    (hg : w.heap[g]? = some (.cells (madeCells #[.int .i64 0] n) elem (0, 0))) (hn : xs.length ≤ n) (hn63 : n ≤ 9223372036854775807)
    (h : ∀ w', Ints w' (.slice (some ⟨g, 0, none⟩) n n) (padL xs n) → w.grownBy w' (some g) → wpList P ops Q rest (a.put o.dst (goInt xs.length)) w') : wpList P ops Q (o :: rest) a w := by
  obtain ⟨sp, sCap, rfl, hl, hc⟩ := hv
  by_cases h0 : xs.length = 0
  · refine wpList_copy_nothing hgd d s dT sT ho elem hu hsz _ _ _ _ _ _ hd hs (by simp [h0]) ?_
    have hx : xs = [] := List.eq_nil_of_length_eq_zero h0
    rw [h0] at h
    refine h w ⟨_, n, by rw [padL_length hn], by rw [padL_length hn]; exact hn63, fun _ => ⟨g, 0, rfl, fun i hi => ?_⟩⟩ ⟨rfl, rfl, rfl, Nat.le_refl _, fun _ _ _ => rfl⟩
    rw [padL_length hn] at hi
    rw [gi_padL, hx]
    simp only [World.cell?, hg, Nat.zero_add, madeCells_get _ _ _ hi, gi]
    rfl
  · obtain ⟨b, off, rfl, hcell⟩ := hc (by omega)
    have hsize : (madeCells #[Value.int .i64 0] n).size = n := by rw [size_madeCells]
    refine wpList_copy_own hgd d s dT sT ho elem hu hsz g 0 n n ⟨b, off, none⟩ xs.length sCap hd hs _ elem hg (xs.map (Value.int .i64)) (by rw [List.length_map]; exact (Nat.min_eq_left hn).symm) (fun j u hu => ?_) (by simp [hsize]; omega) (fun u hu => ?_) ?_
    · simp at hu
      obtain ⟨x, hx, rfl⟩ := hu
      obtain ⟨hj, hjx⟩ := List.getElem?_eq_some_iff.1 hx
      have := hcell j hj
      rw [gi_eq hj, hjx] at this
      by_cases hj0 : j = 0
      · subst hj0; simpa [Addr.add] using this
      · simpa [Addr.add, hj0] using this
    · simp at hu
      obtain ⟨x, _, rfl⟩ := hu
      rfl
    · have e : (xs.map (Value.int .i64)).length = xs.length := by simp
      rw [e]
      refine h _ ⟨_, n, by rw [padL_length hn], by rw [padL_length hn]; exact hn63, fun _ => ⟨g, 0, rfl, fun i hi => ?_⟩⟩ (World.grownBy_setRow _ _ _)
      rw [padL_length hn] at hi
      have hh := setRow_heap w g _ ((madeCells #[Value.int .i64 0] n).toList.take 0 ++ (xs.map (Value.int .i64) ++ (madeCells #[Value.int .i64 0] n).toList.drop (0 + xs.length))).toArray elem _ hg
      simp only [Nat.zero_add] at hh ⊢
      rw [cell_of_row _ g i _ elem (0, 0) hh, gi_padL]
      rcases Nat.lt_or_ge i xs.length with hi2 | hi2
      · simp [List.getElem?_append_left, hi2, gi]
      · have hg0 : gi xs i = 0 := by simp [gi, List.getElem?_eq_none hi2]
        rw [hg0]
        have hm := madeCells_get (.int .i64 0) n i hi
        have : (List.drop xs.length (madeCells #[Value.int .i64 0] n).toList)[i - xs.length]? = some (.int .i64 0) := by
          rw [List.getElem?_drop, show xs.length + (i - xs.length) = i by omega]; simpa using hm
        simp [List.getElem?_append_right, hi2, this]

theorem size_alloc (w : World) (o : Obj) : (w.alloc o).heap.size = w.heap.size + 1 := by simp
theorem alloc2_get (w : World) (o1 o2 : Obj) : ((w.alloc o1).alloc o2).heap[w.heap.size + 1]? = some o2 := by
  rw [← size_alloc w o1]; exact heap_alloc_new _ _

/-! ### append of what was just built, inside a region that draws its order -/
theorem step_append_fresh {P : Program} {ops : Array Oper} {o : Oper} {a : Act} {w : World} {K : Act → World → Prop} {Q : Exit → Act → World → Prop} {E : Prop} (hgd : o.guard = none) (s x : Operand) (t : TypeId)
    (ho : o.op = .call { callee := .builtin .append, args := #[s, x], argTypes := #[t, t] })
    (base : Nat) (e : TypeId) (z : Value) (size bytes : Nat) (ht : P.underlying t = some (.slice e)) (hinfo : (P.info? e).map (fun i => (i.zero, i.size, i.bytes)) = some (some z, size, bytes)) (hzs : z.cells.size = size) (hsz : 0 < size)
    (v : Value) (n : Nat) (xs : List Value) (hs : a.eval s = v) (w0 : World) (hown : w0.ownsRow base e size v n xs) (m : Nat) (news : List Value) (k : Nat)
    (hw : w = (w0.alloc (.cells news.toArray e)).drewN k) (hx : a.eval x = .slice (some ⟨w0.heap.size, 0, none⟩) m m) (hl : news.length = m * size) (h1 : ∀ u ∈ news, u.oneCell' = true)
    (hm : 0 < m) (h63 : n + m ≤ 9223372036854775807) (hbytes : (n + m) * bytes ≤ 140737488355328) (hbase : base ≤ w0.heap.size)
    (h : ∀ g cap w', w'.ownsRow base e size (.slice (some ⟨g, 0, none⟩) (n + m) cap) (n + m) (xs ++ news) → w0.grownBy w' v.ownBlock → (v.ownBlock = some g ∨ g = w0.heap.size + 1) → g < w'.heap.size → K (a.put o.dst (.slice (some ⟨g, 0, none⟩) (n + m) cap)) w') :
    if Region.wanted o (yielded ops a.tmps) = true then Oper.wp P o a w K Q else E := by
  subst hw
  obtain ⟨i, hi, hz⟩ := Option.map_eq_some_iff.1 hinfo
  simp only [Prod.mk.injEq] at hz
  obtain ⟨hz1, hz2, hz3⟩ := hz
  have hown' : ((w0.alloc (.cells news.toArray e)).drewN k).ownsRow base e size v n xs := hown.alloc _
  have hsize : ((w0.alloc (.cells news.toArray e)).drewN k).heap.size = w0.heap.size + 1 := by simp
  have hblk : ((w0.alloc (.cells news.toArray e)).drewN k).heap[w0.heap.size]? = some (.cells news.toArray e (0, 0)) := heap_alloc_new _ _
  refine step_append_lies _ hgd s x t ho base e i z size bytes ht hi hz1 hz2 hz3 hzs hsz v n xs hs hown' ⟨w0.heap.size, 0, none⟩ m m news hx hl (World.news_of_block hblk) h1 hm (by unfold maxLen; omega) hbytes (by rw [hsize]; omega) _ hsize ?_
  intro g cap w' a1 a2 a3 a4
  exact h g cap w' a1 ⟨a2.os, a2.tape, a2.output, Nat.le_trans (by rw [hsize]; omega) a2.size, fun j hj hr => (a2.block j (by rw [hsize]; omega) hr).trans (Below.heap_alloc w0 _ j hj)⟩ a3 a4

/-! ### forgetting how a world came about; what stays where one block alone is written -/
theorem wp_forget {P : Program} {c : Code} {Q : Exit → Act → World → Prop} {a : Act} {w : World} (I : World → Prop) (h0 : I w) (h : ∀ W, I W → c.wp P Q a W) : c.wp P Q a w := h w h0
theorem Ints.kept {w w' : World} {v : Value} {xs : List Int} {row : Option Nat} (h : Ints w v xs) (hg : w.grownBy w' row) (hne : ∀ k, v.ownBlock = some k → some k ≠ row) : Ints w' v xs := by
  obtain ⟨a, cap, rfl, hl, hc⟩ := h
  refine ⟨a, cap, rfl, hl, fun h0 => ?_⟩
  obtain ⟨b, off, rfl, hcell⟩ := hc h0
  exact ⟨b, off, rfl, fun i hi => hg.cell (a := ⟨b, off + i, none⟩) (hcell i hi) (hne b rfl)⟩
theorem rowIs_kept {w w' : World} {b : Nat} {t : TypeId} {n : Nat} {f : Nat → Value} {row : Option Nat} (h : w.rowIs b t n f) (hg : w.grownBy w' row) (hne : some b ≠ row) : w'.rowIs b t n f :=
  h.of_block (hg.block b h.lt hne)
theorem grownBy_refl (w : World) (row : Option Nat) : w.grownBy w row := ⟨rfl, rfl, rfl, Nat.le_refl _, fun _ _ _ => rfl⟩
theorem grownBy_drewN {w w' : World} {row : Option Nat} (h : w.grownBy w' row) (n : Nat) : w.grownBy (w'.drewN n) row := ⟨h.os, h.tape, h.output, h.size, h.block⟩
theorem grownBy_alloc {w w' : World} {row : Option Nat} (h : w.grownBy w' row) (o : Obj) : w.grownBy (w'.alloc o) row := grownBy_trans h (World.grownBy_alloc _ _ _)
theorem grownBy_setCell {w w' : World} {b : Nat} (h : w.grownBy w' (some b)) (i : Nat) (v : Value) : w.grownBy (w'.setCell ⟨b, i, none⟩ v) (some b) :=
  grownBy_trans h ⟨rfl, rfl, rfl, by simp [World.setCell], fun k _ hk => Below.heap_setCell _ _ _ _ (fun e => hk (by rw [e]))⟩
theorem Below.of_grown {w w' : World} {B b : Nat} (h : w.grownBy w' (some b)) (hB : B ≤ w.heap.size) (hb : B ≤ b) : Below B w w' :=
  (Below.refl _ _).grown h hB (fun k hk => by cases hk; exact hb)
/-- a block that is known whole -/
theorem heap_kept {w w' : World} {b : Nat} {o : Obj} {row : Option Nat} (h : w.heap[b]? = some o) (hg : w.grownBy w' row) (hne : some b ≠ row) : w'.heap[b]? = some o := by
  rw [hg.block b (Array.getElem?_eq_some_iff.1 h).1 hne]; exact h

/-! ### a family of rows of integers, each the call's own, no two in one block -/
def Fam (W : World) (e : TypeId) (B m : Nat) (V : Nat → Value) (L : Nat → List Int) : Prop :=
  (∀ i, i < m → W.ownsRow B e 1 (V i) (L i).length ((L i).map (Value.int .i64))) ∧
  ∀ i j, i < m → j < m → i ≠ j → ∀ b, (V i).ownBlock = some b → (V j).ownBlock ≠ some b
def upd {α : Type} (f : Nat → α) (i : Nat) (v : α) : Nat → α := fun j => if j = i then v else f j
theorem upd_at {α : Type} (f : Nat → α) (i : Nat) (v : α) : upd f i v i = v := if_pos rfl
theorem upd_off {α : Type} {f : Nat → α} {i j : Nat} {v : α} (h : j ≠ i) : upd f i v j = f j := if_neg h
theorem Fam.kept {W W' : World} {e : TypeId} {B m : Nat} {V : Nat → Value} {L : Nat → List Int} {row : Option Nat} (h : Fam W e B m V L) (hg : W.grownBy W' row) (hr : ∀ k, row = some k → k < B) : Fam W' e B m V L := by
  refine ⟨fun i hi => (h.1 i hi).kept hg ?_, h.2⟩
  cases hv : (V i).ownBlock with
  | none => exact .inl rfl
  | some b =>
    right
    have hb := ((h.1 i hi).lt b hv).1
    cases row with
    | none => simp
    | some k => have := hr k rfl; intro e; cases e; omega
theorem Fam.congr {W : World} {e : TypeId} {B m : Nat} {V : Nat → Value} {L L' : Nat → List Int} (h : Fam W e B m V L) (hl : ∀ i, i < m → L i = L' i) : Fam W e B m V L' :=
  ⟨fun i hi => by rw [← hl i hi]; exact h.1 i hi, h.2⟩
theorem Fam.congrV {W : World} {e : TypeId} {B m : Nat} {V V' : Nat → Value} {L : Nat → List Int} (h : Fam W e B m V L) (hl : ∀ i, i < m → V i = V' i) : Fam W e B m V' L :=
  ⟨fun i hi => by rw [← hl i hi]; exact h.1 i hi, fun i j hi hj hij => by rw [← hl i hi, ← hl j hj]; exact h.2 i j hi hj hij⟩
theorem Fam.append {W W' : World} {e : TypeId} {B m : Nat} {V : Nat → Value} {L : Nat → List Int} (h : Fam W e B m V L) {i : Nat} (hi : i < m) {g n cap : Nat} {l : List Int}
    (ho : W'.ownsRow B e 1 (.slice (some ⟨g, 0, none⟩) n cap) l.length (l.map (Value.int .i64))) (hg : W.grownBy W' (V i).ownBlock) (hw : (V i).ownBlock = some g ∨ W.heap.size ≤ g) :
    Fam W' e B m (upd V i (.slice (some ⟨g, 0, none⟩) n cap)) (upd L i l) := by
  have hne : ∀ j, j < m → j ≠ i → (V j).ownBlock ≠ some g := fun j hj hji hjg => by
    rcases hw with h1 | h1
    · exact h.2 i j hi hj (fun e => hji e.symm) g h1 hjg
    · have := ((h.1 j hj).lt g hjg).2; omega
  refine ⟨fun j hj => ?_, fun j k hj hk hjk b hb => ?_⟩
  · by_cases hji : j = i
    · subst hji; rw [upd_at, upd_at]; exact ho
    · rw [upd_off hji, upd_off hji]
      refine (h.1 j hj).kept hg ?_
      cases hv : (V j).ownBlock with
      | none => exact .inl rfl
      | some b => exact .inr (fun e => h.2 j i hj hi hji b hv e.symm)
  · by_cases hji : j = i
    · subst hji
      rw [upd_at] at hb
      rw [upd_off (fun e => hjk e.symm)]
      have : g = b := by simpa [Value.ownBlock] using hb
      subst this
      exact hne k hk (fun e => hjk e.symm)
    · rw [upd_off hji] at hb
      by_cases hki : k = i
      · subst hki; rw [upd_at]
        intro e
        have : g = b := by simpa [Value.ownBlock] using e
        subst this
        exact hne j hj hji hb
      · rw [upd_off hki]; exact h.2 j k hj hk hjk b hb
theorem Fam.fresh (W : World) (e : TypeId) (B m : Nat) : Fam W e B m (fun _ => .slice none 0 0) (fun _ => []) :=
  ⟨fun _ _ => World.ownsRow_nil W B e 1, fun _ _ _ _ _ b hb => by simp [Value.ownBlock] at hb⟩

/-- a block of three cells, cell by cell -/
theorem block3 {W : World} {b : Nat} {x y z : Value} {t : TypeId} (h : W.heap[b]? = some (.cells #[x, y, z] t (0, 0))) :
    W.cell? ⟨b, 0, none⟩ = some x ∧ W.cell? ⟨b, 1, none⟩ = some y ∧ W.cell? ⟨b, 2, none⟩ = some z ∧ W.frozen? ⟨b, 0, none⟩ = false ∧ W.frozen? ⟨b, 1, none⟩ = false ∧ W.frozen? ⟨b, 2, none⟩ = false := by
  refine ⟨?_, ?_, ?_, ?_, ?_, ?_⟩ <;> simp [World.cell?, World.frozen?, h]
theorem below_heap {B : Nat} {w w' : World} {b : Nat} {o : Obj} (hb : Below B w w') (h : w.heap[b]? = some o) (hB : b < B) : w'.heap[b]? = some o := by rw [hb.block b hB]; exact h
theorem block3_set {W : World} {b : Nat} {x y z x' y' z' : Value} {t : TypeId} (h : W.heap[b]? = some (.cells #[x, y, z] t (0, 0))) :
    (((W.setCell ⟨b, 0, none⟩ x').setCell ⟨b, 1, none⟩ y').setCell ⟨b, 2, none⟩ z').heap[b]? = some (.cells #[x', y', z'] t (0, 0)) := by
  simp [World.setCell, Array.getElem?_modify, h]

theorem alloc3_get (w : World) (o1 o2 o3 : Obj) (n : Nat) : ((((w.alloc o1).alloc o2).alloc o3).drewN n).heap[w.heap.size]? = some o1 ∧ ((((w.alloc o1).alloc o2).alloc o3).drewN n).heap[w.heap.size + 1]? = some o2 ∧
    ((((w.alloc o1).alloc o2).alloc o3).drewN n).heap[w.heap.size + 1 + 1]? = some o3 := by
  refine ⟨?_, ?_, ?_⟩
  · show (((w.alloc o1).alloc o2).alloc o3).heap[w.heap.size]? = _
    rw [Below.heap_alloc _ _ _ (by rw [size_alloc, size_alloc]; omega), Below.heap_alloc _ _ _ (by rw [size_alloc]; omega)]; exact heap_alloc_new _ _
  · show (((w.alloc o1).alloc o2).alloc o3).heap[w.heap.size + 1]? = _
    rw [Below.heap_alloc _ _ _ (by rw [size_alloc, size_alloc]; omega)]; exact alloc2_get _ _ _
  · show (((w.alloc o1).alloc o2).alloc o3).heap[w.heap.size + 1 + 1]? = _
    rw [← size_alloc w o1]; exact alloc2_get _ _ _
theorem alloc2_both (w : World) (o1 o2 : Obj) (n : Nat) : (((w.alloc o1).alloc o2).drewN n).heap[w.heap.size]? = some o1 ∧ (((w.alloc o1).alloc o2).drewN n).heap[w.heap.size + 1]? = some o2 :=
  ⟨by show ((w.alloc o1).alloc o2).heap[w.heap.size]? = _
      rw [Below.heap_alloc _ _ _ (by rw [size_alloc]; omega)]; exact heap_alloc_new _ _, alloc2_get _ _ _⟩
theorem rowIs_of_made {W : World} {b n : Nat} {z : Value} {t : TypeId} (h : W.heap[b]? = some (.cells (madeCells #[z] n) t (0, 0))) : W.rowIs b t n (fun _ => z) :=
  ⟨_, h, size_madeCells _ _, fun i hi => madeCells_get z n i hi⟩

/-- .. and outside such a region. -/
theorem wpList_append_fresh {P : Program} {ops : Array Oper} {rest : List Oper} {o : Oper} {a : Act} {w : World} {Q : Exit → Act → World → Prop} (hgd : o.guard = none) (s x : Operand) (t : TypeId)
    (ho : o.op = .call { callee := .builtin .append, args := #[s, x], argTypes := #[t, t] })
    (base : Nat) (e : TypeId) (z : Value) (size bytes : Nat) (ht : P.underlying t = some (.slice e)) (hinfo : (P.info? e).map (fun i => (i.zero, i.size, i.bytes)) = some (some z, size, bytes)) (hzs : z.cells.size = size) (hsz : 0 < size)
    (v : Value) (n : Nat) (xs : List Value) (hs : a.eval s = v) (w0 : World) (hown : w0.ownsRow base e size v n xs) (m : Nat) (news : List Value) (k : Nat)
    (hw : w = (w0.alloc (.cells news.toArray e)).drewN k) (hx : a.eval x = .slice (some ⟨w0.heap.size, 0, none⟩) m m) (hl : news.length = m * size) (h1 : ∀ u ∈ news, u.oneCell' = true)
    (hm : 0 < m) (h63 : n + m ≤ 9223372036854775807) (hbytes : (n + m) * bytes ≤ 140737488355328) (hbase : base ≤ w0.heap.size)
    (h : ∀ g cap w', w'.ownsRow base e size (.slice (some ⟨g, 0, none⟩) (n + m) cap) (n + m) (xs ++ news) → w0.grownBy w' v.ownBlock → (v.ownBlock = some g ∨ g = w0.heap.size + 1) → g < w'.heap.size → wpList P ops Q rest (a.put o.dst (.slice (some ⟨g, 0, none⟩) (n + m) cap)) w') :
    wpList P ops Q (o :: rest) a w := by
  subst hw
  obtain ⟨i, hi, hz⟩ := Option.map_eq_some_iff.1 hinfo
  simp only [Prod.mk.injEq] at hz
  obtain ⟨hz1, hz2, hz3⟩ := hz
  have hown' : ((w0.alloc (.cells news.toArray e)).drewN k).ownsRow base e size v n xs := hown.alloc _
  have hsize : ((w0.alloc (.cells news.toArray e)).drewN k).heap.size = w0.heap.size + 1 := by simp
  have hblk : ((w0.alloc (.cells news.toArray e)).drewN k).heap[w0.heap.size]? = some (.cells news.toArray e (0, 0)) := heap_alloc_new _ _
  refine wpList_append_lies _ hgd s x t ho base e i z size bytes ht hi hz1 hz2 hz3 hzs hsz v n xs hs hown' ⟨w0.heap.size, 0, none⟩ m m news hx hl (World.news_of_block hblk) h1 hm (by unfold maxLen; omega) hbytes (by rw [hsize]; omega) _ hsize ?_
  intro g cap w' a1 a2 a3 a4
  exact h g cap w' a1 ⟨a2.os, a2.tape, a2.output, Nat.le_trans (by rw [hsize]; omega) a2.size, fun j hj hr => (a2.block j (by rw [hsize]; omega) hr).trans (Below.heap_alloc w0 _ j hj)⟩ a3 a4
theorem map_snoc (xs : List Int) (z : Int) : (xs ++ [z]).map (Value.int .i64) = xs.map (Value.int .i64) ++ [.int .i64 z] := by simp
/-- An owned row of integers, one more at its end. -/
theorem owns_snoc {W : World} {base : Nat} {e : TypeId} {v : Value} {xs : List Int} {z : Int} (h : W.ownsRow base e 1 v (xs.length + 1) (xs.map (Value.int .i64) ++ [.int .i64 z])) :
    W.ownsRow base e 1 v (xs ++ [z]).length ((xs ++ [z]).map (Value.int .i64)) := by rw [map_snoc, List.length_append]; exact h
end Go.Proofs.YtfjfbiocjloilaaDoor
