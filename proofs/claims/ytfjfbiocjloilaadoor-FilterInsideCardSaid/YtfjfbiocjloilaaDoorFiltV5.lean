/-
  What is proved here: the program's filter.Parse (11.2).
-/
import Derived.Test.YtfjfbiocjloilaaDoorFiltV4
import Derived.Deep.CutBlock
import Derived.Deep.DeepCutAuto
namespace Go.Proofs.YtfjfbiocjloilaaDoor
open Go.RowKit Go.Sort

/-! ### two rows that one block holds, and that grow -/
structure TwoR (W0 : World) (R : Nat) (o : Obj) (W : World) (e1 e2 : Nat) (v1 v2 : Value) (n1 n2 : Nat) (x1 x2 : List Value) : Prop where
  blk : W.heap[R]? = some o
  r1 : W.ownsRow (R + 1) e1 1 v1 n1 x1
  r2 : W.ownsRow (R + 1) e2 1 v2 n2 x2
  ne : ∀ b, v1.ownBlock = some b → v2.ownBlock ≠ some b
  bel : Below R W0 W
/-- A block of one cell that is in none of the rows. -/
structure SrcB (W : World) (v1 v2 : Value) (b : Nat) (x : Value) (e : Nat) : Prop where
  heap : W.heap[b]? = some (.cells #[x] e (0, 0))
  n1 : v1.ownBlock ≠ some b
  n2 : v2.ownBlock ≠ some b
section
variable {W0 W W' : World} {R b : Nat} {o : Obj} {e e1 e2 : Nat} {x v1 v2 : Value} {n1 n2 : Nat} {x1 x2 : List Value}
theorem SrcB.swap (h : SrcB W v1 v2 b x e) : SrcB W v2 v1 b x e := ⟨h.heap, h.n2, h.n1⟩
theorem TwoR.swap (h : TwoR W0 R o W e1 e2 v1 v2 n1 n2 x1 x2) : TwoR W0 R o W e2 e1 v2 v1 n2 n1 x2 x1 := ⟨h.blk, h.r2, h.r1, fun b h2 h1 => h.ne b h1 h2, h.bel⟩
theorem TwoR.lt (h : TwoR W0 R o W e1 e2 v1 v2 n1 n2 x1 x2) : R < W.heap.size := (Array.getElem?_eq_some_iff.1 h.blk).1
theorem TwoR.grown (h : TwoR W0 R o W e1 e2 v1 v2 n1 n2 x1 x2) (hg : W.grownBy W' none) : TwoR W0 R o W' e1 e2 v1 v2 n1 n2 x1 x2 :=
  ⟨(hg.block R h.lt (by simp)).trans h.blk, h.r1.kept hg (by cases v1.ownBlock <;> simp), h.r2.kept hg (by cases v2.ownBlock <;> simp), h.ne,
    ⟨hg.os.trans h.bel.os, hg.tape.trans h.bel.tape, hg.output.trans h.bel.output, Nat.le_trans h.bel.size hg.size, fun k hk => (hg.block k (Nat.lt_trans hk h.lt) (by simp)).trans (h.bel.block k hk)⟩⟩
theorem TwoR.alloc (h : TwoR W0 R o W e1 e2 v1 v2 n1 n2 x1 x2) (ob : Obj) : TwoR W0 R o (W.alloc ob) e1 e2 v1 v2 n1 n2 x1 x2 := h.grown (World.grownBy_alloc _ _ _)
theorem SrcB.alloc (h : SrcB W v1 v2 b x e) (ob : Obj) : SrcB (W.alloc ob) v1 v2 b x e :=
  ⟨(Below.heap_alloc _ _ _ (Array.getElem?_eq_some_iff.1 h.heap).1).trans h.heap, h.n1, h.n2⟩
theorem SrcB.new (h : TwoR W0 R o W e1 e2 v1 v2 n1 n2 x1 x2) (x : Value) (e : Nat) : SrcB (W.alloc (.cells #[x] e (0, 0))) v1 v2 W.heap.size x e :=
  ⟨heap_alloc_new _ _, fun hb => by have := (h.r1.lt _ hb).2; omega, fun hb => by have := (h.r2.lt _ hb).2; omega⟩
theorem TwoR.app1 (h : TwoR W0 R o W e1 e2 v1 v2 n1 n2 x1 x2) {g n cap : Nat} {y : List Value} (ho : W'.ownsRow (R + 1) e1 1 (.slice (some ⟨g, 0, none⟩) n cap) n y) (hg : W.grownBy W' v1.ownBlock) (hw : v1.ownBlock = some g ∨ g = W.heap.size) :
    TwoR W0 R o W' e1 e2 (.slice (some ⟨g, 0, none⟩) n cap) v2 n n2 y x2 := by
  have hl : ∀ k, v1.ownBlock = some k → R + 1 ≤ k := fun k hk => (h.r1.lt k hk).1
  have hR := h.lt
  refine ⟨(hg.block R hR (fun e => by have := hl R e.symm; omega)).trans h.blk, ho, h.r2.kept hg ?_, fun b hb h2 => ?_, ⟨hg.os.trans h.bel.os, hg.tape.trans h.bel.tape, hg.output.trans h.bel.output, Nat.le_trans h.bel.size hg.size, fun k hk => (hg.block k (Nat.lt_trans hk hR) (fun e => by have := hl k e.symm; omega)).trans (h.bel.block k hk)⟩⟩
  · cases h2 : v2.ownBlock with
    | none => exact .inl rfl
    | some b => exact .inr (fun e => h.ne b e.symm h2)
  · have hgb : g = b := by simpa [Value.ownBlock] using hb
    subst hgb
    rcases hw with h1 | h1
    · exact h.ne g h1 h2
    · have := (h.r2.lt g h2).2; omega
theorem SrcB.app1 (h : SrcB W v1 v2 b x e) {g n cap : Nat} (hg : W.grownBy W' v1.ownBlock) (hw : v1.ownBlock = some g ∨ g = W.heap.size) : SrcB W' (.slice (some ⟨g, 0, none⟩) n cap) v2 b x e := by
  have hb := (Array.getElem?_eq_some_iff.1 h.heap).1
  refine ⟨(hg.block b hb (fun e => h.n1 e.symm)).trans h.heap, fun e => ?_, h.n2⟩
  have hgb : g = b := by simpa [Value.ownBlock] using e
  subst hgb
  rcases hw with h1 | h1
  · exact h.n1 h1
  · omega
theorem grown_drew (W : World) : W.grownBy W.drew none := ⟨rfl, rfl, rfl, Nat.le_refl _, fun _ _ _ => rfl⟩
theorem two_app {Pg : Program} {ops : Array Oper} {op : Oper} {a : Act} {K : Act → World → Prop} {Qx : Exit → Act → World → Prop} {E : Prop} (hgd : op.guard = none) (s y : Operand) (t : TypeId)
    (ho : op.op = .call { callee := .builtin .append, args := #[s, y], argTypes := #[t, t] }) {z : Value} {bytes : Nat} (ht : Pg.underlying t = some (.slice e1)) (hinfo : (Pg.info? e1).map (fun i => (i.zero, i.size, i.bytes)) = some (some z, 1, bytes)) (hzc : z.cells.size = 1)
    (h : TwoR W0 R o W e1 e2 v1 v2 n1 n2 x1 x2) (hsrc : SrcB W v1 v2 b x e1) (hx : x.oneCell' = true) (hs : a.eval s = v1) (hy : a.eval y = .slice (some ⟨b, 0, none⟩) 1 1) (hlen : n1 ≤ 100000) (hby : bytes ≤ 16)
    (hk : ∀ g cap w', TwoR W0 R o w' e1 e2 (.slice (some ⟨g, 0, none⟩) (n1 + 1) cap) v2 (n1 + 1) n2 (x1 ++ [x]) x2 → (∀ b' x' e', SrcB W v1 v2 b' x' e' → SrcB w' (.slice (some ⟨g, 0, none⟩) (n1 + 1) cap) v2 b' x' e') → K (a.put op.dst (.slice (some ⟨g, 0, none⟩) (n1 + 1) cap)) w') :
    if Region.wanted op (yielded ops a.tmps) = true then Oper.wp Pg op a W K Qx else E := by
  obtain ⟨j, hj, hz⟩ := Option.map_eq_some_iff.1 hinfo
  simp only [Prod.mk.injEq] at hz
  obtain ⟨hz1, hz2, hz3⟩ := hz
  have hm : (n1 + 1) * bytes ≤ 100001 * 16 := Nat.mul_le_mul (by omega) hby
  refine step_append_lies _ hgd s y t ho (R + 1) e1 j z 1 bytes ht hj hz1 hz2 hz3 hzc (by omega) v1 n1 x1 hs h.r1 ⟨b, 0, none⟩ 1 1 [x] hy rfl
    (World.news_of_block (cs := #[x]) hsrc.heap) (by intro u hu; simp at hu; subst hu; exact hx) (by omega) (by unfold maxLen; omega) (by omega) h.lt _ rfl ?_
  intro g cap w' a1 a2 a3 _
  exact hk g cap w' (h.app1 a1 a2 a3) (fun b' x' e' hs' => hs'.app1 a2 a3)
theorem TwoR.cells {w1 w2 : Value} {k en : Nat} (h : TwoR W0 R (rdObj v1 v2 k en) W e1 e2 w1 w2 n1 n2 x1 x2) : W.cell? ⟨R, 0, none⟩ = some v1 ∧ W.cell? ⟨R, 1, none⟩ = some v2 := by
  obtain ⟨y0, y1, _⟩ := block4 h.blk
  exact ⟨y0, y1⟩
end
abbrev tStr : Nat := 9
theorem infoStr : (Tryd.prog.info? 9).map (fun i => (i.zero, i.size, i.bytes)) = some (some (.string ⟨#[]⟩), 1, 16) := by kernel_rfl
theorem infoInt : (Tryd.prog.info? 3).map (fun i => (i.zero, i.size, i.bytes)) = some (some (.int .i64 0), 1, 8) := by kernel_rfl
abbrev wsOf (ts : List Tok) : List Value := ts.map fun t => .string t.1
abbrev psOf (ts : List Tok) : List Value := ts.map fun t => .int .i64 t.2
/-- At the head of the loop over the bytes. -/
def PRel (w : World) (s : ByteArray) (g : Nat) (iv : Value) (W : World) : Prop :=
  ∃ (i : Nat) (done : List Tok) (v1 v2 : Value), iv = .int .i64 i ∧ i + g = s.size + 1 ∧ done.length ≤ i ∧ done ++ toksAt s i = toks s ∧ TwoR w w.heap.size (rdObj v1 v2 0 s.size) W tStr 3 v1 v2 done.length done.length (wsOf done) (psOf done)
theorem PRel.step {w W : World} {s : ByteArray} {i k : Nat} {done : List Tok} {v1 v2 y1 y2 : Value} (hik : i < k) (hk : k ≤ s.size) (hl : done.length ≤ i) (hd : done ++ toksAt s i = toks s) (ht : toksAt s i = (s.extract i k, i) :: toksAt s k)
    (h : TwoR w w.heap.size (rdObj v1 v2 0 s.size) W tStr 3 y1 y2 (done.length + 1) (done.length + 1) (wsOf done ++ [.string (s.extract i k)]) (psOf done ++ [.int .i64 i])) :
    PRel w s (s.size + 1 - k) (.int .i64 k) ((W.setCell ⟨w.heap.size, 0, none⟩ y1).setCell ⟨w.heap.size, 1, none⟩ y2) := by
  have g1 := grownBy_setCell (b := w.heap.size) (grownBy_setCell (b := w.heap.size) (grownBy_refl W (some w.heap.size)) 0 y1) 1 y2
  have b1 := h.blk
  have hne : ∀ {e n v x}, W.ownsRow (w.heap.size + 1) e 1 v n x → ((W.setCell ⟨w.heap.size, 0, none⟩ y1).setCell ⟨w.heap.size, 1, none⟩ y2).ownsRow (w.heap.size + 1) e 1 v n x := fun {e n v x} ho => ho.kept g1 (by
    cases hv : v.ownBlock with
    | none => exact .inl rfl
    | some b => exact .inr (fun e => by have := (ho.lt b hv).1; cases e; omega))
  refine ⟨k, done ++ [(s.extract i k, i)], y1, y2, rfl, by omega, by simp; omega, by rw [List.append_assoc]; show done ++ ((s.extract i k, i) :: toksAt s k) = _; rw [← ht]; exact hd, ?_⟩
  refine ⟨by simp [World.setCell, Array.getElem?_modify, b1], by simpa [wsOf] using hne h.r1, by simpa [psOf] using hne h.r2, h.ne, ?_⟩
  exact (h.bel.setCell (Nat.le_refl _) _).setCell (Nat.le_refl _) _

theorem rowAt_own {W : World} {R e n : Nat} {v : Value} {xs : List Value} {f : Nat → Value} (h : W.ownsRow (R + 1) e 1 v n xs) (hf : ∀ i, i < n → xs[i]? = some (f i)) : RowAt R W.heap.size W v n f := by
  obtain ⟨hn, h⟩ := h
  rcases h with ⟨rfl, h0⟩ | ⟨g, cap, cur, rfl, hb, hg, hn, hm, hs, ht⟩
  · exact ⟨none, 0, by rw [h0], by omega, by omega, fun h => by omega⟩
  · have hgl := (Array.getElem?_eq_some_iff.1 hg).1
    refine ⟨some ⟨g, 0, none⟩, cap, rfl, hn, by unfold maxLen at hm; omega, fun h0 => ⟨g, 0, rfl, by omega, hgl, fun i hi => ?_⟩⟩
    have h1 : (cur.toList.take (n * 1))[i]? = xs[i]? := by rw [ht]
    rw [Nat.mul_one, List.getElem?_take, if_pos hi, hf i hi] at h1
    simp only [World.cell?, hg, Nat.zero_add]
    simpa using h1
def ParseV (w : World) (s : ByteArray) (r : Ending) (w' : World) : Prop :=
  ∃ fv ev, r = .returned (.tuple #[fv, ev]) ∧ Below w.heap.size w w' ∧ match (parseE s).2.2 with
    | some a => ev = .nilIface ∧ VAst (fun b => w.heap.size ≤ b) w' fv a
    | none => fv = .nilIface ∧ ((s.size ≤ 2000 ∧ PErr w' ev (parseE s).1 (parseE s).2.1) ∨ (2000 < s.size ∧ ev = .iface 23 (.int .i64 4)))
set_option maxHeartbeats 1000000 in
theorem parsev_long (s : ByteArray) (w : World) (hs : 2000 < s.size) (hm : s.size ≤ 9223372036854775807) : Calls Tryd.prog 5 #[.string s] w (ParseV w s) := by
  have hpe : parseE s = (4, -1, none) := by unfold parseE; rw [if_pos hs]
  have HPE := Lib.hid hpe
  clear hpe
  go_enter Tryd.func5, Tryd.ntmps5
  go_wp2
  go_ret2
  refine ⟨_, _, rfl, Below.refl _ _, ?_⟩
  rw [HPE.out]
  exact ⟨rfl, .inr ⟨hs, rfl⟩⟩

set_option maxHeartbeats 4000000 in
set_option maxRecDepth 100000 in
theorem parsev {lo : Nat} (s : ByteArray) (w : World) (hE : EnvF lo w) (hs : s.size ≤ 2000) : Calls Tryd.prog 5 #[.string s] w (ParseV w s) := by
  have HE := Lib.hid hE
  clear hE
  have hd2 : decide ((2000 : Int) < (s.size : Int)) = false := by simp; omega
  go_enter Tryd.func5, Tryd.ntmps5
  go_wp2_with fail
  go_loopg [5] (s.size + 1) (PRel w s)
  case atStart =>
    exact ⟨0, [], .slice none 0 0, .slice none 0 0, rfl, by omega, by simp, rfl, ⟨heap_alloc_new w (rdObj (.slice none 0 0) (.slice none 0 0) 0 s.size), World.ownsRow_nil _ _ _ _, World.ownsRow_nil _ _ _ _, fun b h => by simp [Value.ownBlock] at h, (Below.refl _ _).alloc (Nat.le_refl _) _⟩⟩
  case round =>
    obtain ⟨i, done, v1, v2, rfl, hig, hdl, hd, h2⟩ := hrel
    have HD := Lib.hid hd
    obtain ⟨r0, r1, r2, r3, z0, z1, z2, z3⟩ := block4 h2.blk
    have H2 := Lib.hid h2
    clear hd h2
    by_cases hlt : i < s.size
    · by_cases hb : s[i] = 32
      · have hcn : ((s[i]'hlt).toNat : Int) = 32 := by rw [hb]; rfl
        have hte := toksAt_blank hlt hb
        have HT := Lib.hid hte
        clear hte hb
        go_wp2_with fail
        go_roundg (s.size + 1 - (i + 1))
        case measure => omega
        case rel => exact ⟨i + 1, done, v1, v2, by go_num, by omega, by omega, by rw [← HT.out]; exact HD.out, H2.out⟩
      · have hcn : ((s[i]'hlt).toNat : Int) ≠ 32 := fun h => hb (UInt8.toNat_inj.1 (by show _ = 32; omega))
        go_upto_block 2 with fail
        go_cut [5, 6] (fun iv kv W => W = wr ∧ iv = .int .i64 i ∧ ∃ k : Nat, kv = .int .i64 k ∧ i < k ∧ k ≤ s.size ∧ toksAt s i = (s.extract i k, i) :: toksAt s k)
        case first =>
          by_cases hm : s[i] = 40 ∨ s[i] = 41
          · have ht := toksAt_mark hlt hm
            have HT := Lib.hid ht
            clear ht
            rcases hm with hm | hm
            · have hcn2 : ((s[i]'hlt).toNat : Int) = 40 := by rw [hm]; rfl
              clear hm hb
              go_wp2_with fail
              go_meet
              exact ⟨rfl, rfl, i + 1, by go_num, by omega, by omega, HT.out⟩
            · have hcn2 : ((s[i]'hlt).toNat : Int) = 41 := by rw [hm]; rfl
              clear hm hb
              go_wp2_with fail
              go_meet
              exact ⟨rfl, rfl, i + 1, by go_num, by omega, by omega, HT.out⟩
          · have hs0 : isSep s[i] = false := by simp only [isSep]; simp [hb]; simpa using hm
            have ht := toksAt_word hlt hs0
            have hcn2 : ((s[i]'hlt).toNat : Int) ≠ 40 := fun h => hm (.inl (UInt8.toNat_inj.1 (by show _ = 40; omega)))
            have hcn3 : ((s[i]'hlt).toNat : Int) ≠ 41 := fun h => hm (.inr (UInt8.toNat_inj.1 (by show _ = 41; omega)))
            have hgt : i < wordEnd s (s.size - i) i := by
              rw [show s.size - i = (s.size - i - 1) + 1 by omega]
              exact wordEnd_gt hlt hs0
            have HT := Lib.hid ht; have HGT := Lib.hid hgt; have HS0 := Lib.hid hs0
            have b1 : (((s[i]'hlt).toNat : Int) == 32) = false := by simpa using hcn
            have b2 : (((s[i]'hlt).toNat : Int) == 40) = false := by simpa using hcn2
            have b3 : (((s[i]'hlt).toNat : Int) == 41) = false := by simpa using hcn3
            clear ht hgt hm hb hs0
            go_wp2_with fail
            go_loopg [6] (s.size + 1) (fun g kv W => W = wr ∧ ∃ k : Nat, kv = .int .i64 k ∧ k + g = s.size + 1 + i ∧ i ≤ k ∧ k ≤ s.size ∧ wordEnd s (s.size - i) i = wordEnd s (s.size - k) k)
            case atStart => exact ⟨rfl, i, rfl, by omega, by omega, by omega, rfl⟩
            case round =>
              obtain ⟨rfl, k, rfl, hkg, hik, hks, hwe⟩ := hrel
              have HWE := Lib.hid hwe
              clear hwe
              by_cases hl2 : k < s.size
              · by_cases hsp : isSep s[k] = true
                · have hst := HWE.out.trans (wordEnd_stop (n := s.size - k) hl2 hsp)
                  have HST := Lib.hid hst
                  have h3 : s[k] = 32 ∨ s[k] = 40 ∨ s[k] = 41 := by
                    simp only [isSep] at hsp
                    by_cases a : s[k] = 32
                    · exact .inl a
                    · by_cases b : s[k] = 40
                      · exact .inr (.inl b)
                      · right; right; simpa [a, b] using hsp
                  have hik2 : i < k := by have := HGT.out; rw [hst] at this; exact this
                  clear hst hsp
                  rcases h3 with hc | hc | hc
                  · have hck : ((s[k]'hl2).toNat : Int) = 32 := by rw [hc]; rfl
                    clear hc
                    go_wp2_with fail
                    go_meet
                    exact ⟨rfl, rfl, k, rfl, hik2, hks, by have := HT.out; rw [HST.out] at this; exact this⟩
                  · have hck : ((s[k]'hl2).toNat : Int) = 40 := by rw [hc]; rfl
                    clear hc
                    go_wp2_with fail
                    go_meet
                    exact ⟨rfl, rfl, k, rfl, hik2, hks, by have := HT.out; rw [HST.out] at this; exact this⟩
                  · have hck : ((s[k]'hl2).toNat : Int) = 41 := by rw [hc]; rfl
                    clear hc
                    go_wp2_with fail
                    go_meet
                    exact ⟨rfl, rfl, k, rfl, hik2, hks, by have := HT.out; rw [HST.out] at this; exact this⟩
                · have hns : isSep s[k] = false := by simpa using hsp
                  have hst := HWE.out.trans (wordEnd_step hl2 hns)
                  have HST := Lib.hid hst
                  have a1 : ((s[k]'hl2).toNat : Int) ≠ 32 := fun h => by have : s[k] = 32 := UInt8.toNat_inj.1 (by show _ = 32; omega); rw [this] at hns; cases hns
                  have a2 : ((s[k]'hl2).toNat : Int) ≠ 40 := fun h => by have : s[k] = 40 := UInt8.toNat_inj.1 (by show _ = 40; omega); rw [this] at hns; cases hns
                  have a3 : ((s[k]'hl2).toNat : Int) ≠ 41 := fun h => by have : s[k] = 41 := UInt8.toNat_inj.1 (by show _ = 41; omega); rw [this] at hns; cases hns
                  have c1 : (((s[k]'hl2).toNat : Int) != 32) = true := by simpa using a1
                  have c2 : (((s[k]'hl2).toNat : Int) != 40) = true := by simpa using a2
                  have c3 : (((s[k]'hl2).toNat : Int) != 41) = true := by simpa using a3
                  obtain ⟨n, rfl⟩ : ∃ n, gk = n + 1 := ⟨gk - 1, by omega⟩
                  clear hst hsp hns a1 a2 a3
                  go_wp2_with fail
                  go_roundg n
                  case measure => omega
                  case rel => exact ⟨rfl, k + 1, by go_num, by omega, by omega, by omega, HST.out⟩
              · have hst := HWE.out.trans (wordEnd_end (n := s.size - k) (k := k) (by omega))
                have HST := Lib.hid hst
                have hik2 : i < k := by have := HGT.out; rw [hst] at this; exact this
                clear hst
                go_wp2_with fail
                go_meet
                exact ⟨rfl, rfl, k, rfl, hik2, hks, by have := HT.out; rw [HST.out] at this; exact this⟩
        case rest =>
          obtain ⟨rfl, rfl, k, rfl, hik, hks, ht⟩ := hcut
          have HT := Lib.hid ht
          clear ht hcn
          have hk0 : (0 : Int) ≤ (i : Int) := by omega
          go_wp2_with fail
          refine wp_region_late (fun W => W.cell? ⟨w.heap.size, 0, none⟩ = some v1 ∧ W.cell? ⟨w.heap.size, 1, none⟩ = some v2) [19] rfl ⟨r0, r1⟩ (fun hHeld => ?_)
          refine wpAnyT_takePD (i := 0) (d := 58) (oi := _) (v := ?zv1) rfl rfl (by kernel_rfl) (fun _ _ _ h => h) (Or.inl ⟨by rfl, ?zy1⟩) (by assumption) ?zr1
          case zy1 => (intro w hSw; (try dsimp only at hSw); go_split_ands; go_simp; (try rw [if_pos (by omega)]); (try go_simp); try with_reducible rfl)
          simp only [List.setIfInBounds_toArray, List.set_cons_zero, List.set_cons_succ]
          refine wpAnyT_takePD (i := 1) (d := 59) (oi := _) (v := ?zv2) rfl rfl (by kernel_rfl) (fun _ _ _ h => h) (Or.inl ⟨by rfl, ?zy2⟩) (by assumption) ?zr2
          case zy2 => (intro w hSw; (try dsimp only at hSw); go_split_ands; go_simp; (try rw [if_pos (by omega)]); (try go_simp); try with_reducible rfl)
          simp only [List.setIfInBounds_toArray, List.set_cons_zero, List.set_cons_succ]
          refine wpAnyT_takePD (i := 2) (d := 60) (oi := _) (v := ?zv3) rfl rfl (by kernel_rfl) (fun _ _ _ h => h) (Or.inl ⟨by rfl, ?zy3⟩) (by assumption) ?zr3
          case zy3 => (intro w hSw; (try dsimp only at hSw); go_split_ands; go_simp; (try rw [if_pos (by omega)]); (try go_simp); try with_reducible rfl)
          simp only [List.setIfInBounds_toArray, List.set_cons_zero, List.set_cons_succ]
          refine wpAnyT_takePD (i := 3) (d := 61) (oi := _) (v := ?zv4) rfl rfl (by kernel_rfl) (fun _ _ _ h => h) (Or.inl ⟨by rfl, ?zy4⟩) (by assumption) ?zr4
          case zy4 => (intro w hSw; (try dsimp only at hSw); go_split_ands; go_simp; (try rw [if_pos (by omega)]); (try go_simp); try with_reducible rfl)
          simp only [List.setIfInBounds_toArray, List.set_cons_zero, List.set_cons_succ]
          refine wpAnyT_takePD (i := 4) (d := 62) (oi := _) (v := ?zv5) rfl rfl (by kernel_rfl) (fun _ _ _ h => h) (Or.inl ⟨by rfl, ?zy5⟩) (by assumption) ?zr5
          case zy5 => (intro w hSw; (try dsimp only at hSw); go_split_ands; go_simp; (try rw [if_pos (by omega)]); (try go_simp); try with_reducible rfl)
          simp only [List.setIfInBounds_toArray, List.set_cons_zero, List.set_cons_succ]
          refine wpAnyT_takeD (i := 5) (d := 63) (oi := _) (v := ?zv6) rfl rfl (by kernel_rfl) (fun _ _ _ h => h) (Or.inl ⟨by rfl, ?zy6⟩) (by assumption) ?zr6
          case zy6 => (intro w hSw; (try dsimp only at hSw); go_split_ands; go_simp; (try rw [if_pos (by omega)]); (try go_simp); try with_reducible rfl)
          simp only [List.setIfInBounds_toArray, List.set_cons_zero, List.set_cons_succ]
          refine wpAnyT_takePD (i := 6) (d := 64) (oi := _) (v := ?zv7) rfl rfl (by kernel_rfl) (fun _ _ _ h => h) (Or.inl ⟨by rfl, ?zy7⟩) (by assumption) ?zr7
          case zy7 => (intro w hSw; (try dsimp only at hSw); go_split_ands; go_simp; (try rw [if_pos (by omega)]); (try go_simp); try with_reducible rfl)
          simp only [List.setIfInBounds_toArray, List.set_cons_zero, List.set_cons_succ]
          refine wpAnyT_takePD (i := 7) (d := 65) (oi := _) (v := ?zv8) rfl rfl (by kernel_rfl) (fun _ _ _ h => h) (Or.inl ⟨by rfl, ?zy8⟩) (by assumption) ?zr8
          case zy8 => (intro w hSw; (try dsimp only at hSw); go_split_ands; go_simp; (try rw [if_pos (by omega)]); (try go_simp); try with_reducible rfl)
          simp only [List.setIfInBounds_toArray, List.set_cons_zero, List.set_cons_succ]
          refine wpAnyT_takePD (i := 8) (d := 66) (oi := _) (v := ?zv9) rfl rfl (by kernel_rfl) (fun _ _ _ h => h) (Or.inl ⟨by rfl, ?zy9⟩) (by assumption) ?zr9
          case zy9 => (intro w hSw; (try dsimp only at hSw); go_split_ands; go_simp; (try rw [if_pos (by omega)]); (try go_simp); try with_reducible rfl)
          simp only [List.setIfInBounds_toArray, List.set_cons_zero, List.set_cons_succ]
          refine wpAnyT_takePD (i := 9) (d := 67) (oi := _) (v := ?zv10) rfl rfl (by kernel_rfl) (fun _ _ _ h => h) (Or.inl ⟨by rfl, ?zy10⟩) (by assumption) ?zr10
          case zy10 => (intro w hSw; (try dsimp only at hSw); go_split_ands; go_simp; (try rw [if_pos (by omega)]); (try go_simp); try with_reducible rfl)
          simp only [List.setIfInBounds_toArray, List.set_cons_zero, List.set_cons_succ]
          refine wpAnyT_takePD (i := 12) (d := 70) (oi := _) (v := ?zv11) rfl rfl (by kernel_rfl) (fun _ _ _ h => h) (Or.inl ⟨by rfl, ?zy11⟩) (by assumption) ?zr11
          case zy11 => (intro w hSw; (try dsimp only at hSw); go_split_ands; go_simp; (try rw [if_pos (by omega)]); (try go_simp); try with_reducible rfl)
          simp only [List.setIfInBounds_toArray, List.set_cons_zero, List.set_cons_succ]
          refine wpAnyT_takePD (i := 13) (d := 71) (oi := _) (v := ?zv12) rfl rfl (by kernel_rfl) (fun _ _ _ h => h) (Or.inl ⟨by rfl, ?zy12⟩) (by assumption) ?zr12
          case zy12 => (intro w hSw; (try dsimp only at hSw); go_split_ands; go_simp; (try rw [if_pos (by omega)]); (try go_simp); try with_reducible rfl)
          simp only [List.setIfInBounds_toArray, List.set_cons_zero, List.set_cons_succ]
          refine wpAnyT_takePD (i := 14) (d := 72) (oi := _) (v := ?zv13) rfl rfl (by kernel_rfl) (fun _ _ _ h => h) (Or.inl ⟨by rfl, ?zy13⟩) (by assumption) ?zr13
          case zy13 => (intro w hSw; (try dsimp only at hSw); go_split_ands; go_simp; (try rw [if_pos (by omega)]); (try go_simp); try with_reducible rfl)
          simp only [List.setIfInBounds_toArray, List.set_cons_zero, List.set_cons_succ]
          refine wpAnyT_takeD (i := 15) (d := 73) (oi := _) (v := ?zv14) rfl rfl (by kernel_rfl) (fun _ _ _ h => h) (Or.inl ⟨by rfl, ?zy14⟩) (by assumption) ?zr14
          case zy14 => (intro w hSw; (try dsimp only at hSw); go_split_ands; go_simp; (try rw [if_pos (by omega)]); (try go_simp); try with_reducible rfl)
          simp only [List.setIfInBounds_toArray, List.set_cons_zero, List.set_cons_succ]
          refine wpAnyT_takePD (i := 16) (d := 74) (oi := _) (v := ?zv15) rfl rfl (by kernel_rfl) (fun _ _ _ h => h) (Or.inl ⟨by rfl, ?zy15⟩) (by assumption) ?zr15
          case zy15 => (intro w hSw; (try dsimp only at hSw); go_split_ands; go_simp; (try rw [if_pos (by omega)]); (try go_simp); try with_reducible rfl)
          simp only [List.setIfInBounds_toArray, List.set_cons_zero, List.set_cons_succ]
          refine wpAnyT_forget (fun W => TwoR w w.heap.size (rdObj v1 v2 0 s.size) W tStr 3 v1 v2 done.length done.length (wsOf done) (psOf done)) (H2.out.grown (grown_drew _)) ?_
          intro W1 h1
          clear hHeld
          refine wpAnyT_ready (rs := [10, 17]) (by kernel_rfl) (by simp) ((AllReadyT.cons rfl (fun K2 hK2 => ?_) (AllReadyT.cons rfl (fun K2 hK2 => ?_) AllReadyT.nil)))
          · go_simp
            refine hK2.out _ _ (h1.alloc _).cells (fun _ => ?_)
            refine wpAnyT_forget (fun W => TwoR w w.heap.size (rdObj v1 v2 0 s.size) W tStr 3 v1 v2 done.length done.length (wsOf done) (psOf done) ∧ SrcB W v1 v2 W1.heap.size (.string (s.extract i k)) tStr) ⟨h1.alloc _, SrcB.new h1 _ _⟩ ?_
            rintro W2 ⟨h2, hs1⟩
            refine wpAnyT_ready (rs := [11, 17]) (by kernel_rfl) (by simp) ((AllReadyT.cons rfl (fun K2 hK2 => ?_) (AllReadyT.cons rfl (fun K2 hK2 => ?_) AllReadyT.nil)))
            · refine two_app rfl (.tmp 63) (.tmp 68) 47 rfl Tryd.underlying47 infoStr rfl h2 hs1 rfl (by rfl) (by rfl) (by omega) (by omega) ?_
              intro g1 c1 Wa ha hsa
              simp only [Act.put]
              try simp only [List.setIfInBounds_toArray]
              refine hK2.out _ _ ha.cells (fun _ => ?_)
              refine wpAnyT_ready (rs := [17]) (by kernel_rfl) (by simp) ((AllReadyT.cons rfl (fun K2 hK2 => ?_) AllReadyT.nil))
              go_simp
              refine hK2.out _ _ (ha.alloc _).cells (fun _ => ?_)
              refine wpAnyT_forget (fun W => TwoR w w.heap.size (rdObj v1 v2 0 s.size) W tStr 3 (.slice (some ⟨g1, 0, none⟩) (done.length + 1) c1) v2 (done.length + 1) done.length (wsOf done ++ [.string (s.extract i k)]) (psOf done) ∧ SrcB W (.slice (some ⟨g1, 0, none⟩) (done.length + 1) c1) v2 Wa.heap.size (.int .i64 i) 3) ⟨ha.alloc _, SrcB.new ha _ _⟩ ?_
              rintro W3 ⟨h3, hs3⟩
              refine wpAnyT_ready (rs := [18]) (by kernel_rfl) (by simp) ((AllReadyT.cons rfl (fun K2 hK2 => ?_) AllReadyT.nil))
              refine two_app rfl (.tmp 73) (.tmp 75) 48 rfl Tryd.underlying48 infoInt rfl h3.swap hs3.swap rfl (by rfl) (by rfl) (by omega) (by omega) ?_
              intro g2 c2 Wb hb' hsb
              simp only [Act.put]
              try simp only [List.setIfInBounds_toArray]
              refine hK2.out _ _ hb'.swap.cells (fun _ => ?_)
              have hRel := hb'.swap
              obtain ⟨q0, q1, q2, q3, s0, s1, s2, s3⟩ := block4 hRel.blk
              have HREL := Lib.hid hRel
              clear hRel
              refine wpAnyT_tail 19 (by simp) rfl (by simp) (by kernel_rfl) ?_
              simp only [List.drop_succ_cons, List.drop_zero]
              go_wp2_with fail
              go_roundg (s.size + 1 - k)
              case measure => omega
              case rel => exact PRel.step hik hks hdl HD.out HT.out HREL.out
            · go_simp
              refine hK2.out _ _ (h2.alloc _).cells (fun _ => ?_)
              refine wpAnyT_forget (fun W => TwoR w w.heap.size (rdObj v1 v2 0 s.size) W tStr 3 v1 v2 done.length done.length (wsOf done) (psOf done) ∧ SrcB W v1 v2 W1.heap.size (.string (s.extract i k)) tStr ∧ SrcB W v1 v2 W2.heap.size (.int .i64 i) 3) ⟨h2.alloc _, hs1.alloc _, SrcB.new h2 _ _⟩ ?_
              rintro W3 ⟨h3, hs3, hs4⟩
              refine wpAnyT_ready (rs := [11]) (by kernel_rfl) (by simp) ((AllReadyT.cons rfl (fun K2 hK2 => ?_) AllReadyT.nil))
              refine two_app rfl (.tmp 63) (.tmp 68) 47 rfl Tryd.underlying47 infoStr rfl h3 hs3 rfl (by rfl) (by rfl) (by omega) (by omega) ?_
              intro g1 c1 Wa ha hsa
              simp only [Act.put]
              try simp only [List.setIfInBounds_toArray]
              refine hK2.out _ _ ha.cells (fun _ => ?_)
              refine wpAnyT_ready (rs := [18]) (by kernel_rfl) (by simp) ((AllReadyT.cons rfl (fun K2 hK2 => ?_) AllReadyT.nil))
              refine two_app rfl (.tmp 73) (.tmp 75) 48 rfl Tryd.underlying48 infoInt rfl ha.swap (hsa _ _ _ hs4).swap rfl (by rfl) (by rfl) (by omega) (by omega) ?_
              intro g2 c2 Wb hb' hsb
              simp only [Act.put]
              try simp only [List.setIfInBounds_toArray]
              refine hK2.out _ _ hb'.swap.cells (fun _ => ?_)
              have hRel := hb'.swap
              obtain ⟨q0, q1, q2, q3, s0, s1, s2, s3⟩ := block4 hRel.blk
              have HREL := Lib.hid hRel
              clear hRel
              refine wpAnyT_tail 19 (by simp) rfl (by simp) (by kernel_rfl) ?_
              simp only [List.drop_succ_cons, List.drop_zero]
              go_wp2_with fail
              go_roundg (s.size + 1 - k)
              case measure => omega
              case rel => exact PRel.step hik hks hdl HD.out HT.out HREL.out
          · go_simp
            refine hK2.out _ _ (h1.alloc _).cells (fun _ => ?_)
            refine wpAnyT_forget (fun W => TwoR w w.heap.size (rdObj v1 v2 0 s.size) W tStr 3 v1 v2 done.length done.length (wsOf done) (psOf done) ∧ SrcB W v1 v2 W1.heap.size (.int .i64 i) 3) ⟨h1.alloc _, SrcB.new h1 _ _⟩ ?_
            rintro W2 ⟨h2, hs4⟩
            refine wpAnyT_ready (rs := [10]) (by kernel_rfl) (by simp) ((AllReadyT.cons rfl (fun K2 hK2 => ?_) AllReadyT.nil))
            go_simp
            refine hK2.out _ _ (h2.alloc _).cells (fun _ => ?_)
            refine wpAnyT_forget (fun W => TwoR w w.heap.size (rdObj v1 v2 0 s.size) W tStr 3 v1 v2 done.length done.length (wsOf done) (psOf done) ∧ SrcB W v1 v2 W1.heap.size (.int .i64 i) 3 ∧ SrcB W v1 v2 W2.heap.size (.string (s.extract i k)) tStr) ⟨h2.alloc _, hs4.alloc _, SrcB.new h2 _ _⟩ ?_
            rintro W3 ⟨h3, hs5, hs6⟩
            refine wpAnyT_ready (rs := [11]) (by kernel_rfl) (by simp) ((AllReadyT.cons rfl (fun K2 hK2 => ?_) AllReadyT.nil))
            refine two_app rfl (.tmp 63) (.tmp 68) 47 rfl Tryd.underlying47 infoStr rfl h3 hs6 rfl (by rfl) (by rfl) (by omega) (by omega) ?_
            intro g1 c1 Wa ha hsa
            simp only [Act.put]
            try simp only [List.setIfInBounds_toArray]
            refine hK2.out _ _ ha.cells (fun _ => ?_)
            refine wpAnyT_ready (rs := [18]) (by kernel_rfl) (by simp) ((AllReadyT.cons rfl (fun K2 hK2 => ?_) AllReadyT.nil))
            refine two_app rfl (.tmp 73) (.tmp 75) 48 rfl Tryd.underlying48 infoInt rfl ha.swap (hsa _ _ _ hs5).swap rfl (by rfl) (by rfl) (by omega) (by omega) ?_
            intro g2 c2 Wb hb' hsb
            simp only [Act.put]
            try simp only [List.setIfInBounds_toArray]
            refine hK2.out _ _ hb'.swap.cells (fun _ => ?_)
            have hRel := hb'.swap
            obtain ⟨q0, q1, q2, q3, s0, s1, s2, s3⟩ := block4 hRel.blk
            have HREL := Lib.hid hRel
            clear hRel
            refine wpAnyT_tail 19 (by simp) rfl (by simp) (by kernel_rfl) ?_
            simp only [List.drop_succ_cons, List.drop_zero]
            go_wp2_with fail
            go_roundg (s.size + 1 - k)
            case measure => omega
            case rel => exact PRel.step hik hks hdl HD.out HT.out HREL.out
    · have hte : toksAt s i = [] := toksAt_end (by omega)
      have hdt := HD.out
      rw [hte, List.append_nil] at hdt
      subst hdt
      have h2 := H2.out
      obtain ⟨hwf, hwl⟩ := toks_wf hs
      have hrs : RS wr w.heap.size wr.heap.size v1 v2 (toks s) 0 s.size := ⟨h2.blk, rowAt_own h2.r1 (fun i hi => by simp [tokW, hi]), rowAt_own h2.r2 (fun i hi => by simp [tokP, hi]), hwf, by omega, by omega⟩
      have hEr := HE.out.below (h2.bel.mono HE.out.hi)
      have hRl := hrs.lt
      have hcall := onev (en := s.size) HE.out.hi 20 (Nat.le_refl _) wr 0 hrs hEr (Nat.le_refl _)
      rw [List.drop_zero] at hcall
      have HB := Lib.hid h2.bel
      have hbel : ∀ W', wr.grownBy W' (some w.heap.size) → Below w.heap.size w W' := fun W' hg => HB.out.trans (below_of_grown hg (Nat.le_refl _) (Nat.le_of_lt hRl))
      have HBL := Lib.hid hbel
      clear h2 hwf hwl hrs hEr hte H2 HD hbel r0 r1 r2 r3 z0 z1 z2 z3
      cases hone : one 20 (toks s) with
      | err e rest =>
        rw [hone] at hcall
        have hpe : parseE s = (e, (hereOf rest s.size : Int), none) := by unfold parseE; rw [if_neg (by omega), hone]
        have HPE := Lib.hid hpe; have HC := Lib.hid hcall
        clear hone hpe hcall
        go_wp2_with (go_at_call 13; refine Calls.mono (by rw [show (20 : Int) = ((20 : Nat) : Int) from rfl]; exact HC.out) ?_; rintro r w3 ⟨fv, ev, rfl, hg3, ⟨eb, rfl, hE3⟩, _⟩)
        go_ret2
        refine ⟨_, _, rfl, HBL.out _ hg3, ?_⟩
        rw [HPE.out]
        exact ⟨rfl, .inl ⟨hs, eb, rfl, hE3⟩⟩
      | ok a rest =>
        rw [hone] at hcall
        have HC := Lib.hid hcall; have HON := Lib.hid hone
        clear hone hcall
        go_wp2_with (go_at_call 13; refine Calls.mono (by rw [show (20 : Int) = ((20 : Nat) : Int) from rfl]; exact HC.out) ?_; rintro r w3 ⟨fv, ev, rfl, hg3, rfl, k, hk, hr, hv⟩)
        obtain rfl := hk
        obtain ⟨y0, y1, y2, y3, x0, x1, x2, x3⟩ := block4 hr.blk
        obtain ⟨av, cv, rfl, t1, t2, t3⟩ := hr.w
        have hkl := hr.le
        have hlen := hr.len
        have HR := Lib.hid hr; have HV := Lib.hid hv
        clear t3 hr hv
        have hdq : ∀ W : World, ∀ q, W.grownBy (W.drewN q) none := fun W q => ⟨rfl, rfl, rfl, Nat.le_refl _, fun _ _ _ => rfl⟩
        have hdq2 : ∀ W : World, ∀ q, W.grownBy (W.drewN q) (some w.heap.size) := fun W q => ⟨rfl, rfl, rfl, Nat.le_refl _, fun _ _ _ => rfl⟩
        have hs3 := hg3.size
        by_cases hk2 : k < (toks s).length
        · have hdk : decide ((k : Int) < (toks s).length) = true := by simpa using hk2
          have hpe : parseE s = (3, (hereOf ((toks s).drop k) s.size : Int), none) := by
            unfold parseE; rw [if_neg (by omega), HON.out]
            show (if (toks s).drop k = [] then _ else _) = _
            rw [if_neg (fun h => by have := congrArg List.length h; simp at this; omega)]
          have HPE := Lib.hid hpe
          clear hpe
          go_quiet (fail)
          have HR3 := Lib.hid (HR.out.grown (hdq _ nq)); have HG := Lib.hid (grownBy_trans hg3 (hdq2 w3 nq))
          clear hdq hdq2
          go_wp2_with (go_at_call 14; refine (failp HR3.out 3).mono ?_; rintro r w7 ⟨eb, rfl, hpe, hbe⟩)
          go_ret2
          refine ⟨_, _, rfl, HBL.out _ (grownR_below HG.out hbe), ?_⟩
          rw [HPE.out]
          exact ⟨rfl, .inl ⟨hs, hpe⟩⟩
        · have hdk : decide ((k : Int) < (toks s).length) = false := by simpa using hk2
          have hpe : parseE s = (0, -1, some a) := by
            unfold parseE; rw [if_neg (by omega), HON.out]
            show (if (toks s).drop k = [] then _ else _) = _
            rw [if_pos (List.drop_of_length_le (by omega))]
          have HPE := Lib.hid hpe
          clear hpe
          go_quiet (fail)
          have HG := Lib.hid (grownBy_trans hg3 (hdq2 w3 nq))
          clear hdq hdq2
          go_wp2
          go_ret2
          refine ⟨_, _, rfl, HBL.out _ HG.out, ?_⟩
          rw [HPE.out]
          exact ⟨rfl, VAst.kept (S := fun b => wr.heap.size ≤ b) (S' := fun b => w.heap.size ≤ b) (W := w3) (W' := w3.drewN nq) (fun b hb _ => ⟨Nat.le_trans (Nat.le_of_lt hRl) hb, rfl⟩) HV.out⟩
end Go.Proofs.YtfjfbiocjloilaaDoor
