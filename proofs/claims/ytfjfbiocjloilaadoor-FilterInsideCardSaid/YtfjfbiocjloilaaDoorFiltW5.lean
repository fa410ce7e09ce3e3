/-
  What is proved here: the document's parser (11.2): a list in parentheses.
-/
import Derived.Test.YtfjfbiocjloilaaDoorFiltW4
namespace Go.Proofs.YtfjfbiocjloilaaDoor
open Go.RowKit Go.Sort

/-- Filters that have been read, each in a block. -/
def KidsL (S : Nat → Prop) (W : World) : List Nat → List Ast → Prop
  | [], [] => True
  | k :: ks, a :: l => RAst S W k a ∧ KidsL S W ks l
  | _, _ => False
theorem KidsL.snoc {S : Nat → Prop} {W : World} {k : Nat} {a : Ast} (hk : RAst S W k a) : ∀ {ks : List Nat} {l : List Ast}, KidsL S W ks l → KidsL S W (ks ++ [k]) (l ++ [a])
  | [], [], _ => ⟨hk, trivial⟩
  | _ :: _, _ :: _, h => ⟨h.1, KidsL.snoc hk h.2⟩
  | [], _ :: _, h => h.elim
  | _ :: _, [], h => h.elim
theorem KidsL.kept {S S' : Nat → Prop} {W W' : World} (hk : ∀ b, S b → b < W.heap.size → S' b ∧ W'.heap[b]? = W.heap[b]?) : ∀ {ks : List Nat} {l : List Ast}, KidsL S W ks l → KidsL S' W' ks l
  | [], [], _ => trivial
  | _ :: _, _ :: _, h => ⟨h.1.kept hk, KidsL.kept hk h.2⟩
  | [], _ :: _, h => h.elim
  | _ :: _, [], h => h.elim
theorem KidsL.len {S : Nat → Prop} {W : World} : ∀ {ks : List Nat} {l : List Ast}, KidsL S W ks l → ks.length = l.length
  | [], [], _ => rfl
  | _ :: _, _ :: _, h => congrArg (· + 1) (KidsL.len h.2)
  | [], _ :: _, h => h.elim
  | _ :: _, [], h => h.elim
theorem rkids_of {S : Nat → Prop} {W : World} {g : Nat} : ∀ {ks : List Nat} {l : List Ast} {i : Nat}, (∀ j (h : j < ks.length), W.cell? ⟨g, i + j, none⟩ = some (ptrP ks[j])) → KidsL S W ks l → RKids S W g i l
  | [], [], _, _, _ => by unfold RKids; trivial
  | k :: ks, a :: l, i, hc, h => by
    unfold RKids
    refine ⟨⟨k, by have := hc 0 (by simp); simpa using this, h.1⟩, rkids_of (fun j hj => ?_) h.2⟩
    have := hc (j + 1) (by simpa using hj)
    rw [show i + 1 + j = i + (j + 1) by omega]
    simpa using this
  | [], _ :: _, _, _, h => h.elim
  | _ :: _, [], _, _, h => h.elim
/-- The row of kids, by cells. -/
theorem row_cells {W : World} {base e n : Nat} {v : Value} {xs : List Value} (h : W.ownsRow base e 1 v n xs) (hn : 0 < n) (hx : xs.length = n) :
    ∃ g c, v = .slice (some ⟨g, 0, none⟩) n c ∧ base ≤ g ∧ ∀ j (hj : j < xs.length), W.cell? ⟨g, j, none⟩ = some xs[j] := by
  obtain ⟨hl, h⟩ := h
  rcases h with ⟨rfl, h0⟩ | ⟨g, cap, cur, rfl, hb, hg, hn, hm, hs, ht⟩
  · omega
  · refine ⟨g, cap, rfl, hb, fun j hj => ?_⟩
    have h1 : (cur.toList.take (n * 1))[j]? = xs[j]? := by rw [ht]
    rw [Nat.mul_one, List.getElem?_take, if_pos (by omega)] at h1
    simp only [World.cell?, hg]
    simpa [hj] using h1
abbrev tPtr : Nat := 22
theorem infoPtr : (Tryd.prog.info? 22).map (fun i => (i.zero, i.size, i.bytes)) = some (some (.pointer none), 1, 8) := by kernel_rfl
/-- What can be in the row: old kids, none of them in the row's own block. -/
abbrev KidS (F : Nat) (kv : Value) (b : Nat) : Prop := F < b ∧ kv.ownBlock ≠ some b
theorem kids_done {w W : World} {F n : Nat} {kv : Value} {ks : List Nat} {l : List Ast} {o : Bool} (hF : w.heap.size ≤ F) (hf : W.heap[F]? = some (fltObj (if o then kOr else kAnd) 0 0 0 kv))
    (ho : W.ownsRow (F + 1) tPtr 1 kv n (ks.map ptrP)) (hn : n = ks.length) (h0 : 0 < n) (h9 : n ≤ 200000) (hk : KidsL (KidS F kv) W ks l) : RAst (fun b => w.heap.size ≤ b) W F (.several o l) := by
  have hl := hk.len
  obtain ⟨g, c, rfl, hg, hc⟩ := row_cells ho h0 (by simp [hn])
  unfold RAst
  refine ⟨hF, ⟨by omega, by omega⟩, g, c, by rw [← hl, ← hn]; exact hf, by omega, rkids_of (ks := ks) (fun j hj => ?_) (hk.kept fun b hb _ => ⟨by have := hb.1; omega, rfl⟩)⟩
  have := hc j (by simpa using hj)
  simpa using this
/-- The word between filters. -/
def wordOf : Nat → ByteArray
  | 0 => ⟨#[]⟩
  | 1 => kAnd
  | _ => kOr
theorem PS.offO {W W' : World} {P T : Nat} {r : Option Nat} {v : Value} {l : List Tok} {en : Nat} {fe fp : Int} (h : PS W P T v l en fe fp) (hg : W.grownBy W' r) (hr : ∀ b, r = some b → T ≤ b ∧ b ≠ P) : PS W' P T v l en fe fp := by
  cases r with
  | none => exact h.grown hg
  | some b => exact h.off hg (hr b rfl).1 (hr b rfl).2
theorem lst_and {o : List Tok → Res} {m wd : Nat} {acc : List Ast} {rest r : List Tok} {a : Ast} (h1 : o rest = .ok a r) (hs : headIs r kShut = false) (hw : wd ≠ 2) (ha : headIs r kAnd = true) : lst o (m + 1) wd acc rest = lst o m 1 (acc ++ [a]) r.tail := by
  rw [lst, h1]
  simp only [hs, Bool.false_eq_true, if_false]
  rw [if_pos ⟨hw, ha⟩]
theorem lst_or {o : List Tok → Res} {m wd : Nat} {acc : List Ast} {rest r : List Tok} {a : Ast} (h1 : o rest = .ok a r) (hs : headIs r kShut = false) (hn : wd = 2 ∨ headIs r kAnd = false) (hw : wd ≠ 1) (ha : headIs r kOr = true) : lst o (m + 1) wd acc rest = lst o m 2 (acc ++ [a]) r.tail := by
  rw [lst, h1]
  simp only [hs, Bool.false_eq_true, if_false]
  rw [if_neg (fun h => by rcases hn with e | e <;> simp [e] at h), if_pos ⟨hw, ha⟩]
theorem lst_bad {o : List Tok → Res} {m wd : Nat} {acc : List Ast} {rest r : List Tok} {a : Ast} (h1 : o rest = .ok a r) (hs : headIs r kShut = false) (hn : wd = 2 ∨ headIs r kAnd = false) (hm : wd = 1 ∨ headIs r kOr = false) : lst o (m + 1) wd acc rest = .err 3 r := by
  rw [lst, h1]
  simp only [hs, Bool.false_eq_true, if_false]
  rw [if_neg (fun h => by rcases hn with e | e <;> simp [e] at h), if_neg (fun h => by rcases hm with e | e <;> simp [e] at h)]
/-- At the head of the loop over a list. -/
def LRel (w : World) (P T en d F : Nat) (l : List Tok) (g : Nat) (wv : Value) (W : World) : Prop :=
  w.grownBy W (some P) ∧ ∃ (kv : Value) (n wd : Nat) (xs : List Value), wv = .string (wordOf wd) ∧ wd < 3 ∧ W.heap[F]? = some (fltObj kAnd 0 0 0 kv) ∧ W.ownsRow (F + 1) tPtr 1 kv n xs ∧ n + g ≤ l.length + 1 ∧
    ((∃ v' rest acc ks, PS W P T v' rest en 0 (-1) ∧ xs = ks.map ptrP ∧ n = ks.length ∧ KidsL (KidS F kv) W ks acc ∧ one (d + 1) l = lst (one d) g wd acc rest ∧ rest.length < g) ∨
      ∃ e v' l' rest, e ≠ 0 ∧ PS W P T v' l' en e (hereOf rest en) ∧ one (d + 1) l = .err e rest)

def MidOk (W : World) (P T en F : Nat) (kv : Value) (ks : List Nat) (acc : List Ast) (p : Option Addr) : Res → Prop
  | .err e r => e ≠ 0 ∧ ∃ v' l', PS W P T v' l' en e (hereOf r en)
  | .ok a r => ∃ v' B, p = some ⟨B, 0, none⟩ ∧ PS W P T v' r en 0 (-1) ∧ KidsL (KidS F kv) W (ks ++ [B]) (acc ++ [a])
/-- Behind the append. -/
def Mid (w : World) (P T en d F n : Nat) (kv : Value) (ks : List Nat) (acc : List Ast) (rest : List Tok) (p : Option Addr) (W : World) : Prop :=
  w.grownBy W (some P) ∧ W.heap[F]? = some (fltObj kAnd 0 0 0 kv) ∧ W.ownsRow (F + 1) tPtr 1 kv (n + 1) (ks.map ptrP ++ [.pointer p]) ∧ MidOk W P T en F kv ks acc p (one d rest)
theorem block5_set4 {W : World} {b : Nat} {x y z u v x' : Value} {t : TypeId} (h : W.heap[b]? = some (.cells #[x, y, z, u, v] t (0, 0))) :
    (W.setCell ⟨b, 4, none⟩ x').heap[b]? = some (.cells #[x, y, z, u, x'] t (0, 0)) := by
  simp [World.setCell, Array.getElem?_modify, h]
theorem list_round {w wr w5 w6 : World} {P T en d F n g1 cp1 : Nat} {kv : Value} {ks : List Nat} {acc : List Ast} {rest : List Tok} {p : Option Addr} (hPw : P < w.heap.size) (hT : T ≤ w.heap.size) (hF : w.heap.size ≤ F) (hFr : F < wr.heap.size)
    (hg : w.grownBy wr (some P)) (hg5 : wr.grownBy w5 (some P)) (hf5 : w5.heap[F]? = some (fltObj kAnd 0 0 0 kv)) (ho : wr.ownsRow (F + 1) tPtr 1 kv n (ks.map ptrP)) (hk : KidsL (KidS F kv) wr ks acc)
    (hm : match one d rest with
      | .err e r => ∃ v' l', PS w5 P T v' l' en e (hereOf r en)
      | .ok a r => ∃ v' B, p = some ⟨B, 0, none⟩ ∧ PS w5 P T v' r en 0 (-1) ∧ RAst (fun b => wr.heap.size ≤ b) w5 B a)
    (ho6 : w6.ownsRow (F + 1) tPtr 1 (.slice (some ⟨g1, 0, none⟩) (n + 1) cp1) (n + 1) (ks.map ptrP ++ [.pointer p])) (hgr6 : w5.grownBy w6 kv.ownBlock) (hat6 : kv.ownBlock = some g1 ∨ g1 = w5.heap.size + 1) :
    Mid w P T en d F n (.slice (some ⟨g1, 0, none⟩) (n + 1) cp1) ks acc rest p (w6.setCell ⟨F, 4, none⟩ (.slice (some ⟨g1, 0, none⟩) (n + 1) cp1)) := by
  have hkv : ∀ b, kv.ownBlock = some b → F + 1 ≤ b ∧ b < wr.heap.size := fun b hb => ho.lt b hb
  have hs5 := hg5.size
  have hs6 := hgr6.size
  have hgF : F + 1 ≤ g1 := by
    rcases hat6 with h | h
    · exact (hkv _ h).1
    · omega
  have hgs : wr.grownBy w6 (some P) ∨ True := .inr trivial
  have hbw : w.grownBy w6 (some P) := by
    have h5 := grownBy_trans hg hg5
    refine ⟨hgr6.os.trans h5.os, hgr6.tape.trans h5.tape, hgr6.output.trans h5.output, Nat.le_trans h5.size hs6, fun k hk hr => (hgr6.block k (Nat.lt_of_lt_of_le hk h5.size) (fun e => ?_)).trans (h5.block k hk hr)⟩
    have := (hkv k e.symm).1
    omega
  have hf6 : w6.heap[F]? = some (fltObj kAnd 0 0 0 kv) := (hgr6.block F (by omega) (fun e => by have := (hkv F e.symm).1; omega)).trans hf5
  have hset := fun (k : Nat) (hk : k ≠ F) => Below.heap_setCell w6 ⟨F, 4, none⟩ (.slice (some ⟨g1, 0, none⟩) (n + 1) cp1) k hk
  have hps : ∀ {v l fe fp}, PS w5 P T v l en fe fp → PS (w6.setCell ⟨F, 4, none⟩ (.slice (some ⟨g1, 0, none⟩) (n + 1) cp1)) P T v l en fe fp := fun hp =>
    (hp.offO hgr6 (fun b hb => by have := (hkv b hb).1; omega)).off (grownBy_setCell (grownBy_refl _ _) 4 _) (by omega) (by omega)
  refine ⟨grown_set 4 _ hbw hF, block5_set4 hf6, ?_, ?_⟩
  · exact ho6.kept (grownBy_setCell (b := F) (grownBy_refl _ _) 4 _) (.inr (by simp [Value.ownBlock]; omega))
  · cases ho : one d rest with
    | err e r =>
      rw [ho] at hm
      obtain ⟨v', l', hp⟩ := hm
      exact ⟨one_err d _ _ _ ho, v', l', hps hp⟩
    | ok a r =>
      rw [ho] at hm
      obtain ⟨v', B, hB, hp, hr⟩ := hm
      refine ⟨v', B, hB, hps hp, KidsL.snoc (hr.kept fun b hb hlt => ?_) (hk.kept fun b hb hlt => ?_)⟩
      · have hb1 : wr.heap.size ≤ b := hb
        have hne : g1 ≠ b := fun e => by
          rcases hat6 with h | h
          · have := (hkv _ h).2; omega
          · omega
        refine ⟨⟨by omega, by simpa [Value.ownBlock] using hne⟩, ?_⟩
        rw [hset b (by omega)]
        exact hgr6.block b hlt (fun e => by have := (hkv b e.symm).2; omega)
      · obtain ⟨hb1, hb2⟩ := hb
        have hne : g1 ≠ b := fun e => by
          rcases hat6 with h | h
          · exact hb2 (e ▸ h)
          · omega
        refine ⟨⟨hb1, by simpa [Value.ownBlock] using hne⟩, ?_⟩
        rw [hset b (by omega), hgr6.block b (by omega) (fun e => hb2 e.symm)]
        exact hg5.block b hlt (by simp; omega)
theorem _root_.Go.World.ownsRow.congrMap {W : World} {base e n k : Nat} {v : Value} {ks : List Nat} (h : W.ownsRow base e 1 v n (ks.map ptrP ++ [ptrP k])) : W.ownsRow base e 1 v n ((ks ++ [k]).map ptrP) := by simpa using h
theorem calls_forget {P : Program} {f : Nat} {args : Array Value} {w : World} {Q : Ending → World → Prop} (I : World → Prop) (h0 : I w) (h : ∀ W, I W → Calls P f args W Q) : Calls P f args w Q := h w h0

set_option maxHeartbeats 4000000 in
set_option maxRecDepth 100000 in
theorem rfilter_list {P T en lo d : Nat} (hd : d < 20) (IH : RFilters P T en d lo) {w : World} {v : Value} {l : List Tok} (h : PS w P T v l en 0 (-1)) (hE : EnvF lo w) (hP : lo ≤ P) (hT : T ≤ w.heap.size)
    (hl0 : headIs l kAny = false) (hl1 : headIs l kNot = false) (hl2 : headIs l kOpen = true) :
    Calls Tryd.prog 11 #[ptrP P, .int .i64 (20 - (d + 1 : Nat) : Int)] w (RFilterP w P T en (d + 1) l) := by
  have hi := is_no h hl0
  have HI := Lib.hid hi; have H := Lib.hid h; have HE := Lib.hid hE; have HH := Lib.hid IH
  obtain ⟨a, ha⟩ : ∃ a : Int, a = 20 - (d + 1 : Nat) := ⟨_, rfl⟩
  rw [← ha]
  have ha2 : ¬ 19 < a := by omega
  have ha3 : a + 1 = 20 - (d : Int) := by omega
  have HA := Lib.hid ha3
  have ha4 : 0 ≤ a := by omega
  have hone : one (d + 1) l = lst (one d) l.length 0 [] l.tail := by
    unfold one
    rw [if_neg (by rw [hl0]; simp), if_neg (by rw [hl1]; simp), if_pos hl2]
  have HONE := Lib.hid hone; have HLT := Lib.hid (headIs_len hl2)
  have hPl : P < w.heap.size := h.lt
  have hll : l.length ≤ 100000 := h.len
  obtain ⟨y0, y1, y2, y3, y4, z0, z1, z2, z3, z4⟩ := block5 h.blk
  clear h hi hE IH ha3 ha hone
  go_enter Tryd.func11, Tryd.ntmps11
  go_wp2_with (first
    | (go_at_call 17; refine (is_yes hp3 hl2).mono ?_; rintro r w4 ⟨rfl, hg4, v4, hp4⟩; have hg34 := grownBy_trans hg2 (grownBy_trans hg3 hg4))
    | (go_at_call 17; refine (is_no hp2 hl1).mono ?_; rintro r w3 ⟨rfl, hg3, v3, hp3⟩)
    | (go_at_call 17; refine HI.out.mono ?_; rintro r w2 ⟨rfl, hg2, v2, hp2⟩))
  have hF : w.heap.size ≤ w4.heap.size := hg34.size
  have HG34 := Lib.hid (grownBy_alloc hg34 (fltObj kAnd 0 0 0 (.slice none 0 0))); have HP4 := Lib.hid (hp4.grown (World.grownBy_alloc _ (fltObj kAnd 0 0 0 (.slice none 0 0)) _)); have HF4 := Lib.hid (heap_alloc_new w4 (fltObj kAnd 0 0 0 (.slice none 0 0)))
  clear hg34 hp4 hp3 hp2 hg2 hg3 hg4 y0 y1 y2 y3 y4 z0 z1 z2 z3 z4
  obtain ⟨F, rfl⟩ : ∃ F, F = w4.heap.size := ⟨_, rfl⟩
  go_loopg [6] l.length (LRel w P T en d w4.heap.size l)
  case atStart =>
    refine ⟨HG34.out, .slice none 0 0, 0, 0, [], rfl, by omega, HF4.out, World.ownsRow_nil _ _ _ _, by omega, .inl ⟨v4, l.tail, [], [], HP4.out, rfl, rfl, trivial, HONE.out, by have := HLT.out; omega⟩⟩
  case round =>
    obtain ⟨hg, kv, n, wd, xs, hwv, hwd, hf, ho, hnl, hR⟩ := hrel
    obtain ⟨ws, hws⟩ : ∃ ws, ws = wordOf wd := ⟨_, rfl⟩
    rw [← hws] at hwv
    subst hwv
    have HWS := Lib.hid hws
    clear hws
    have hFP : w4.heap.size ≠ P := by omega
    rcases hR with ⟨v5, rest, acc, ks, hp, rfl, hnk, hk, hl, hlen⟩ | ⟨e, v5, l5, rest, he, hp, hl⟩
    · obtain ⟨m, rfl⟩ : ∃ m, gk = m + 1 := ⟨gk - 1, by omega⟩
      obtain ⟨p0, p1, p2, p3, p4, q0, q1, q2, q3, q4⟩ := block5 hp.blk
      obtain ⟨f0, f1, f2, f3, f4, e0, e1, e2, e3, e4⟩ := block5 hf
      have hFl : w4.heap.size < wr.heap.size := (Array.getElem?_eq_some_iff.1 hf).1
      have hsum : IntKind.i64.wrap (a + 1) = a + 1 := IntWalk.i64_in _ (by omega)
      have HG := Lib.hid hg; have HF := Lib.hid hf; have HO := Lib.hid ho; have HP := Lib.hid hp; have HNK := Lib.hid hnk; have HK := Lib.hid hk; have HL := Lib.hid hl
      clear hg hf ho hp hnk hk hl
      go_wp2
      refine wp_region_late (fun W => W.cell? ⟨w4.heap.size, 4, none⟩ = some kv) [10] rfl (by simpa using f4) (fun hHeld => ?_)
      refine wpAnyT_takePD (i := 0) (d := 45) (oi := _) (v := ?zv1) rfl rfl (by kernel_rfl) (fun _ _ _ h => h) (Or.inl ⟨by rfl, ?zy1⟩) (by assumption) ?zr1
      case zy1 => (intro w hSw; (try dsimp only at hSw); go_split_ands; go_simp; (try rw [if_pos (by omega)]); (try go_simp); try with_reducible rfl)
      simp only [List.setIfInBounds_toArray, List.set_cons_zero, List.set_cons_succ]
      refine wpAnyT_takePD (i := 1) (d := 46) (oi := _) (v := ?zv2) rfl rfl (by kernel_rfl) (fun _ _ _ h => h) (Or.inl ⟨by rfl, ?zy2⟩) (by assumption) ?zr2
      case zy2 => (intro w hSw; (try dsimp only at hSw); go_split_ands; go_simp; (try rw [if_pos (by omega)]); (try go_simp); try with_reducible rfl)
      simp only [List.setIfInBounds_toArray, List.set_cons_zero, List.set_cons_succ]
      refine wpAnyT_takePD (i := 2) (d := 47) (oi := _) (v := ?zv3) rfl rfl (by kernel_rfl) (fun _ _ _ h => h) (Or.inl ⟨by rfl, ?zy3⟩) (by assumption) ?zr3
      case zy3 => (intro w hSw; (try dsimp only at hSw); go_split_ands; go_simp; (try rw [if_pos (by omega)]); (try go_simp); try with_reducible rfl)
      simp only [List.setIfInBounds_toArray, List.set_cons_zero, List.set_cons_succ]
      refine wpAnyT_takePD (i := 3) (d := 48) (oi := _) (v := ?zv4) rfl rfl (by kernel_rfl) (fun _ _ _ h => h) (Or.inl ⟨by rfl, ?zy4⟩) (by assumption) ?zr4
      case zy4 => (intro w hSw; (try dsimp only at hSw); go_split_ands; go_simp; (try rw [if_pos (by omega)]); (try go_simp); try with_reducible rfl)
      simp only [List.setIfInBounds_toArray, List.set_cons_zero, List.set_cons_succ]
      refine wpAnyT_takeD (i := 4) (d := 49) (oi := _) (v := ?zv5) rfl rfl (by kernel_rfl) (fun _ _ _ h => h) (Or.inl ⟨by rfl, ?zy5⟩) (by assumption) ?zr5
      case zy5 => (intro w hSw; (try dsimp only at hSw); go_split_ands; go_simp; (try rw [if_pos (by omega)]); (try go_simp); try with_reducible rfl)
      simp only [List.setIfInBounds_toArray, List.set_cons_zero, List.set_cons_succ]
      refine wpAnyT_takePD (i := 5) (d := 50) (oi := _) (v := ?zv6) rfl rfl (by kernel_rfl) (fun _ _ _ h => h) (Or.inl ⟨by rfl, ?zy6⟩) (by assumption) ?zr6
      case zy6 => (intro w hSw; (try dsimp only at hSw); go_split_ands; go_simp; (try rw [if_pos (by omega)]); (try go_simp); try with_reducible rfl)
      simp only [List.setIfInBounds_toArray, List.set_cons_zero, List.set_cons_succ]
      refine wpAnyT_takePD (i := 6) (d := 51) (oi := _) (v := ?zv7) rfl rfl (by kernel_rfl) (fun _ _ _ h => h) (Or.inl ⟨by rfl, ?zy7⟩) (by assumption) ?zr7
      case zy7 => (intro w hSw; (try dsimp only at hSw); go_split_ands; go_simp; (try rw [if_pos (by omega)]); (try go_simp); try with_reducible rfl)
      simp only [List.setIfInBounds_toArray, List.set_cons_zero, List.set_cons_succ]
      refine wpAnyT_takePD (i := 7) (d := 52) (oi := _) (v := ?zv8) rfl rfl (by kernel_rfl) (fun _ _ _ h => h) (Or.inl ⟨by rfl, ?zy8⟩) (by assumption) ?zr8
      case zy8 => (intro w hSw; (try dsimp only at hSw); go_split_ands; go_simp; (try rw [if_pos (by omega)]); (try go_simp); try with_reducible rfl)
      simp only [List.setIfInBounds_toArray, List.set_cons_zero, List.set_cons_succ]
      refine wpAnyT_ready (rs := [8]) (by kernel_rfl) (by simp) (AllReadyT.cons rfl (fun K2 hK2 => ?_) AllReadyT.nil)
      go_simp
      have hdq : ∀ r, wr.grownBy wr.drew r := fun r => ⟨rfl, rfl, rfl, Nat.le_refl _, fun _ _ _ => rfl⟩
      have hpD := HP.out.grown (hdq none)
      have hED := HE.out.grown (grownBy_trans HG.out (hdq (some P))) hP
      refine Calls.mono (by rw [HA.out]; exact HH.out _ _ _ hpD hED hP (by show T ≤ wr.heap.size; omega)) ?_
      rintro r w5 ⟨p, rfl, hg5, hm⟩
      have hgP : wr.grownBy w5 (some P) := ⟨hg5.os, hg5.tape, hg5.output, hg5.size, hg5.block⟩
      have hf5 := (hgP.block w4.heap.size hFl (by simpa using hFP)).trans HF.out
      obtain ⟨b0, b1, b2, b3, b4, c0, c1, c2, c3, c4⟩ := block5 hf5
      have HG5 := Lib.hid hgP; have HM := Lib.hid hm
      clear hpD hED hg5 hgP hm hdq
      refine hK2.out _ _ b4 (fun _ => ?_)
      refine wpAnyT_ready (rs := [9]) (by kernel_rfl) (by simp) (AllReadyT.cons rfl (fun K3 hK3 => ?_) AllReadyT.nil)
      go_simp
      refine hK3.out _ _ ?_ (fun _ => ?_)
      · exact (World.cell?_alloc_some _ _ _ (by rw [b4]; rfl)).trans b4
      refine wpAnyT_tail 10 (by simp) rfl (by simp) (by kernel_rfl) ?_
      simp only [List.drop_succ_cons, List.drop_zero]
      have hkvb : ∀ b, kv.ownBlock = some b → w4.heap.size + 1 ≤ b ∧ b < wr.heap.size := fun b hb => HO.out.lt b hb
      have hown : w5.ownsRow (w4.heap.size + 1) tPtr 1 kv n (ks.map ptrP) := HO.out.kept HG5.out (by
        cases hv : kv.ownBlock with
        | none => exact .inl rfl
        | some b => exact .inr (fun e => by have := (hkvb b hv).1; cases e; omega))
      have hsz5 : w4.heap.size + 1 ≤ w5.heap.size := by have := HG5.out.size; omega
      have hcl : Hid True := Lib.hid trivial
      have HKV := Lib.hid hkvb
      clear hkvb
      go_wp2_with (at_builtin; refine wpList_append_fresh rfl _ _ 58 rfl (w4.heap.size + 1) 22 (.pointer none) 1 8 Tryd.underlying58 infoPtr rfl (by decide) kv _ _ rfl w5 hown 1 [.pointer p] 0 rfl rfl rfl (by simp [Value.oneCell']) (by decide) (by omega) (by omega) hsz5 ?_; intro g1 cp1 w6 ho6 hgr6 hat6 hlt6; have hf6 := (hgr6.block w4.heap.size (by omega) (fun e => by have := (HKV.out _ e.symm).1; omega)).trans hf5; obtain ⟨d0, d1, d2, d3, d4, i0, i1, i2, i3, i4⟩ := block5 hf6; have HO6 := Lib.hid ho6; have HGR6 := Lib.hid hgr6; have HAT6 := Lib.hid hat6; clear hf6 ho6 hgr6 hat6)
      refine calls_forget (Mid w P T en d w4.heap.size n (.slice (some ⟨g1, 0, none⟩) (n + 1) cp1) ks acc rest p) (list_round hPl hT hF hFl HG.out HG5.out hf5 HO.out HK.out HM.out HO6.out HGR6.out HAT6.out) ?_
      rintro wM ⟨hgM, hfM, hoM, hmM⟩
      have hFM : w4.heap.size < wM.heap.size := (Array.getElem?_eq_some_iff.1 hfM).1
      have hgF : w4.heap.size + 1 ≤ g1 := by
        rcases HAT6.out with h | h
        · exact (HKV.out _ h).1
        · omega
      have hkvP : (Value.slice (some ⟨g1, 0, none⟩) (n + 1) cp1).ownBlock ≠ some P := by simp [Value.ownBlock]; omega
      have hkvF : (Value.slice (some ⟨g1, 0, none⟩) (n + 1) cp1).ownBlock ≠ some w4.heap.size := by simp [Value.ownBlock]; omega
      clear HM HO6 HGR6 HAT6 HKV HG5 hf5 hown b0 b1 b2 b3 b4 c0 c1 c2 c3 c4 p0 p1 p2 p3 p4 q0 q1 q2 q3 q4 f0 f1 f2 f3 f4 e0 e1 e2 e3 e4 d0 d1 d2 d3 d4 i0 i1 i2 i3 i4 hsum hcl hlt6 hsz5 HO HK HF HP HG
      have hwd3 : wd = 0 ∨ wd = 1 ∨ wd = 2 := by omega
      clear hwd
      rcases hwd3 with rfl | rfl | rfl
--CASES--
      · obtain rfl : ws = ⟨#[]⟩ := HWS.out
        cases hone1 : one d rest with
        | err e r =>
          rw [hone1] at hmM
          obtain ⟨he, v7, l7, hp7⟩ := hmM
          have hres : one (d + 1) l = .err e r := by rw [HL.out]; unfold lst; rw [hone1]
          have HRES := Lib.hid hres; have HE1 := Lib.hid he
          have HFM := Lib.hid hfM; have HOM := Lib.hid hoM
          clear hone1 hres hfM hoM
          refine (is_bad hp7 he).mono ?_
          rintro r' w8 ⟨rfl, hg8, v8, hp8⟩
          go_wp2_with (first | (go_at_call 12; refine (fail_any hp10 3).mono ?_; rintro r' w11 ⟨⟨rv, rfl⟩, hg11, hp11⟩; rw [if_neg he, if_neg he] at hp11) | (go_at_call 17; refine (is_bad hp9 he).mono ?_; rintro r' w10 ⟨rfl, hg10, v10, hp10⟩) | (go_at_call 17; refine (is_bad hp8 he).mono ?_; rintro r' w9 ⟨rfl, hg9, v9, hp9⟩))
          go_roundg m
          case measure => omega
          case rel =>
            have hgA : wM.grownBy w11 (some P) := (grownBy_trans hg8 ( grownBy_trans hg9 ( grownBy_trans hg10 (hg11))))
            refine ⟨grownBy_trans hgM hgA, _, n + 1, 0, _, rfl, by omega, (hgA.block _ hFM (by simpa using hFP)).trans HFM.out, HOM.out.kept hgA (.inr hkvP), by omega, .inr ⟨e, _, l7, r, HE1.out, hp11, HRES.out⟩⟩
        | ok a r =>
          rw [hone1] at hmM
          obtain ⟨v7, B, rfl, hp7, hkM⟩ := hmM
          have hlen1 := one_len d _ _ _ hone1
          have HON := Lib.hid hone1; have HKM := Lib.hid hkM; have HFM := Lib.hid hfM; have HOM := Lib.hid hoM
          clear hone1 hkM hfM hoM
          by_cases hsh : headIs r kShut = true
          · refine (is_yes hp7 hsh).mono ?_
            rintro r' w8 ⟨rfl, hg8, v8, hp8⟩
            have hfin : one (d + 1) l = .ok (.several false (acc ++ [a])) r.tail := by
              rw [HL.out]; unfold lst; rw [HON.out]; simp only [hsh, if_true]; rfl
            have hf8 := (hg8.block _ hFM (by simpa using hFP)).trans HFM.out
            obtain ⟨y0, y1, y2, y3, y4, z0, z1, z2, z3, z4⟩ := block5 hf8
            have HF8 := Lib.hid hf8; have HFIN := Lib.hid hfin
            clear hf8 hfin
            go_wp2
            go_ret
            refine ⟨some ⟨w4.heap.size, 0, none⟩, rfl, grownBy_trans hgM hg8, ?_⟩
            rw [HFIN.out]
            refine ⟨_, _, rfl, hp8, ?_⟩
            have hkk := KidsL.kept (S' := KidS w4.heap.size (.slice (some ⟨g1, 0, none⟩) (n + 1) cp1)) (W' := w8) (fun b hb hlt => ⟨hb, by
              have h1 := hb.1
              rw [hg8.block b hlt (by simp; omega)]⟩) HKM.out
            exact kids_done hF HF8.out ((HOM.out.kept hg8 (.inr hkvP)).congrMap) (by simp; exact HNK.out) (by omega) (by omega) hkk
          · have hsh' : headIs r kShut = false := by simpa using hsh
            refine (is_no hp7 hsh').mono ?_
            rintro r' w8 ⟨rfl, hg8, v8, hp8⟩
            have HLS := Lib.hid hlen1
            by_cases han : headIs r kAnd = true
            · go_wp2_with (go_at_call 17; refine (is_yes hp8 han).mono ?_; rintro r' w9 ⟨rfl, hg9, v9, hp9⟩)
              go_roundg m
              case measure => omega
              case rel =>
                have hgA : wM.grownBy w9 (some P) := (grownBy_trans hg8 (hg9))
                have hlt := HLS.out
                refine ⟨grownBy_trans hgM hgA, _, n + 1, 1, _, rfl, by omega, (hgA.block _ hFM (by simpa using hFP)).trans HFM.out, HOM.out.kept hgA (.inr hkvP), by omega, .inl ⟨v9, r.tail, acc ++ [a], ks ++ [B], hp9, by simp, by simp; exact HNK.out, HKM.out.kept (fun b hb hlt => ⟨hb, by have h1 := hb.1; rw [hgA.block b hlt (by simp; omega)]⟩), ?_, by rw [List.length_tail]; omega⟩⟩
                rw [HL.out]; exact lst_and HON.out hsh' (by decide) han
            · have han' : headIs r kAnd = false := by simpa using han
              by_cases hor : headIs r kOr = true
              · go_wp2_with (first | (go_at_call 17; refine (is_yes hp9 hor).mono ?_; rintro r' w10 ⟨rfl, hg10, v10, hp10⟩) | (go_at_call 17; refine (is_no hp8 han').mono ?_; rintro r' w9 ⟨rfl, hg9, v9, hp9⟩))
                go_roundg m
                case measure => omega
                case rel =>
                  have hgA : wM.grownBy w10 (some P) := (grownBy_trans hg8 ( grownBy_trans hg9 (hg10)))
                  have hlt := HLS.out
                  refine ⟨grownBy_trans hgM hgA, _, n + 1, 2, _, rfl, by omega, (hgA.block _ hFM (by simpa using hFP)).trans HFM.out, HOM.out.kept hgA (.inr hkvP), by omega, .inl ⟨v10, r.tail, acc ++ [a], ks ++ [B], hp10, by simp, by simp; exact HNK.out, HKM.out.kept (fun b hb hlt => ⟨hb, by have h1 := hb.1; rw [hgA.block b hlt (by simp; omega)]⟩), ?_, by rw [List.length_tail]; omega⟩⟩
                  rw [HL.out]; exact lst_or HON.out hsh' (.inr han') (by decide) hor
              · have hor' : headIs r kOr = false := by simpa using hor
                go_wp2_with (first | (go_at_call 12; refine (fail_any hp10 3).mono ?_; rintro r' w11 ⟨⟨rv, rfl⟩, hg11, hp11⟩; rw [if_pos rfl, if_pos rfl] at hp11) | (go_at_call 17; refine (is_no hp9 hor').mono ?_; rintro r' w10 ⟨rfl, hg10, v10, hp10⟩) | (go_at_call 17; refine (is_no hp8 han').mono ?_; rintro r' w9 ⟨rfl, hg9, v9, hp9⟩))
                go_roundg m
                case measure => omega
                case rel =>
                  have hgA : wM.grownBy w11 (some P) := (grownBy_trans hg8 ( grownBy_trans hg9 ( grownBy_trans hg10 (hg11))))
                  have hlt := HLS.out
                  refine ⟨grownBy_trans hgM hgA, _, n + 1, 0, _, rfl, by omega, (hgA.block _ hFM (by simpa using hFP)).trans HFM.out, HOM.out.kept hgA (.inr hkvP), by omega, .inr ⟨3, _, _, r, by omega, hp11, ?_⟩⟩
                  rw [HL.out]; exact lst_bad HON.out hsh' (.inr han') (.inr hor')
      · obtain rfl : ws = ⟨#[97, 110, 100]⟩ := HWS.out
        cases hone1 : one d rest with
        | err e r =>
          rw [hone1] at hmM
          obtain ⟨he, v7, l7, hp7⟩ := hmM
          have hres : one (d + 1) l = .err e r := by rw [HL.out]; unfold lst; rw [hone1]
          have HRES := Lib.hid hres; have HE1 := Lib.hid he
          have HFM := Lib.hid hfM; have HOM := Lib.hid hoM
          clear hone1 hres hfM hoM
          refine (is_bad hp7 he).mono ?_
          rintro r' w8 ⟨rfl, hg8, v8, hp8⟩
          go_wp2_with (first | (go_at_call 12; refine (fail_any hp9 3).mono ?_; rintro r' w10 ⟨⟨rv, rfl⟩, hg10, hp10⟩; rw [if_neg he, if_neg he] at hp10) | (go_at_call 17; refine (is_bad hp8 he).mono ?_; rintro r' w9 ⟨rfl, hg9, v9, hp9⟩))
          go_roundg m
          case measure => omega
          case rel =>
            have hgA : wM.grownBy w10 (some P) := (grownBy_trans hg8 ( grownBy_trans hg9 (hg10)))
            refine ⟨grownBy_trans hgM hgA, _, n + 1, 1, _, rfl, by omega, (hgA.block _ hFM (by simpa using hFP)).trans HFM.out, HOM.out.kept hgA (.inr hkvP), by omega, .inr ⟨e, _, l7, r, HE1.out, hp10, HRES.out⟩⟩
        | ok a r =>
          rw [hone1] at hmM
          obtain ⟨v7, B, rfl, hp7, hkM⟩ := hmM
          have hlen1 := one_len d _ _ _ hone1
          have HON := Lib.hid hone1; have HKM := Lib.hid hkM; have HFM := Lib.hid hfM; have HOM := Lib.hid hoM
          clear hone1 hkM hfM hoM
          by_cases hsh : headIs r kShut = true
          · refine (is_yes hp7 hsh).mono ?_
            rintro r' w8 ⟨rfl, hg8, v8, hp8⟩
            have hfin : one (d + 1) l = .ok (.several false (acc ++ [a])) r.tail := by
              rw [HL.out]; unfold lst; rw [HON.out]; simp only [hsh, if_true]; rfl
            have hf8 := (hg8.block _ hFM (by simpa using hFP)).trans HFM.out
            obtain ⟨y0, y1, y2, y3, y4, z0, z1, z2, z3, z4⟩ := block5 hf8
            have HF8 := Lib.hid hf8; have HFIN := Lib.hid hfin
            clear hf8 hfin
            go_wp2
            go_ret
            refine ⟨some ⟨w4.heap.size, 0, none⟩, rfl, grownBy_trans hgM hg8, ?_⟩
            rw [HFIN.out]
            refine ⟨_, _, rfl, hp8, ?_⟩
            have hkk := KidsL.kept (S' := KidS w4.heap.size (.slice (some ⟨g1, 0, none⟩) (n + 1) cp1)) (W' := w8) (fun b hb hlt => ⟨hb, by
              have h1 := hb.1
              rw [hg8.block b hlt (by simp; omega)]⟩) HKM.out
            exact kids_done hF HF8.out ((HOM.out.kept hg8 (.inr hkvP)).congrMap) (by simp; exact HNK.out) (by omega) (by omega) hkk
          · have hsh' : headIs r kShut = false := by simpa using hsh
            refine (is_no hp7 hsh').mono ?_
            rintro r' w8 ⟨rfl, hg8, v8, hp8⟩
            have HLS := Lib.hid hlen1
            by_cases han : headIs r kAnd = true
            · go_wp2_with (go_at_call 17; refine (is_yes hp8 han).mono ?_; rintro r' w9 ⟨rfl, hg9, v9, hp9⟩)
              go_roundg m
              case measure => omega
              case rel =>
                have hgA : wM.grownBy w9 (some P) := (grownBy_trans hg8 (hg9))
                have hlt := HLS.out
                refine ⟨grownBy_trans hgM hgA, _, n + 1, 1, _, rfl, by omega, (hgA.block _ hFM (by simpa using hFP)).trans HFM.out, HOM.out.kept hgA (.inr hkvP), by omega, .inl ⟨v9, r.tail, acc ++ [a], ks ++ [B], hp9, by simp, by simp; exact HNK.out, HKM.out.kept (fun b hb hlt => ⟨hb, by have h1 := hb.1; rw [hgA.block b hlt (by simp; omega)]⟩), ?_, by rw [List.length_tail]; omega⟩⟩
                rw [HL.out]; exact lst_and HON.out hsh' (by decide) han
            · have han' : headIs r kAnd = false := by simpa using han
              go_wp2_with (first | (go_at_call 12; refine (fail_any hp9 3).mono ?_; rintro r' w10 ⟨⟨rv, rfl⟩, hg10, hp10⟩; rw [if_pos rfl, if_pos rfl] at hp10) | (go_at_call 17; refine (is_no hp8 han').mono ?_; rintro r' w9 ⟨rfl, hg9, v9, hp9⟩))
              go_roundg m
              case measure => omega
              case rel =>
                have hgA : wM.grownBy w10 (some P) := (grownBy_trans hg8 ( grownBy_trans hg9 (hg10)))
                have hlt := HLS.out
                refine ⟨grownBy_trans hgM hgA, _, n + 1, 1, _, rfl, by omega, (hgA.block _ hFM (by simpa using hFP)).trans HFM.out, HOM.out.kept hgA (.inr hkvP), by omega, .inr ⟨3, _, _, r, by omega, hp10, ?_⟩⟩
                rw [HL.out]; exact lst_bad HON.out hsh' (.inr han') (.inl rfl)
      · obtain rfl : ws = ⟨#[111, 114]⟩ := HWS.out
        cases hone1 : one d rest with
        | err e r =>
          rw [hone1] at hmM
          obtain ⟨he, v7, l7, hp7⟩ := hmM
          have hres : one (d + 1) l = .err e r := by rw [HL.out]; unfold lst; rw [hone1]
          have HRES := Lib.hid hres; have HE1 := Lib.hid he
          have HFM := Lib.hid hfM; have HOM := Lib.hid hoM
          clear hone1 hres hfM hoM
          refine (is_bad hp7 he).mono ?_
          rintro r' w8 ⟨rfl, hg8, v8, hp8⟩
          go_wp2_with (first | (go_at_call 12; refine (fail_any hp9 3).mono ?_; rintro r' w10 ⟨⟨rv, rfl⟩, hg10, hp10⟩; rw [if_neg he, if_neg he] at hp10) | (go_at_call 17; refine (is_bad hp8 he).mono ?_; rintro r' w9 ⟨rfl, hg9, v9, hp9⟩))
          go_roundg m
          case measure => omega
          case rel =>
            have hgA : wM.grownBy w10 (some P) := (grownBy_trans hg8 ( grownBy_trans hg9 (hg10)))
            refine ⟨grownBy_trans hgM hgA, _, n + 1, 2, _, rfl, by omega, (hgA.block _ hFM (by simpa using hFP)).trans HFM.out, HOM.out.kept hgA (.inr hkvP), by omega, .inr ⟨e, _, l7, r, HE1.out, hp10, HRES.out⟩⟩
        | ok a r =>
          rw [hone1] at hmM
          obtain ⟨v7, B, rfl, hp7, hkM⟩ := hmM
          have hlen1 := one_len d _ _ _ hone1
          have HON := Lib.hid hone1; have HKM := Lib.hid hkM; have HFM := Lib.hid hfM; have HOM := Lib.hid hoM
          clear hone1 hkM hfM hoM
          by_cases hsh : headIs r kShut = true
          · refine (is_yes hp7 hsh).mono ?_
            rintro r' w8 ⟨rfl, hg8, v8, hp8⟩
            have hfin : one (d + 1) l = .ok (.several true (acc ++ [a])) r.tail := by
              rw [HL.out]; unfold lst; rw [HON.out]; simp only [hsh, if_true]; rfl
            have hf8 := (hg8.block _ hFM (by simpa using hFP)).trans HFM.out
            obtain ⟨y0, y1, y2, y3, y4, z0, z1, z2, z3, z4⟩ := block5 hf8
            have HF8 := Lib.hid hf8; have HFIN := Lib.hid hfin
            clear hf8 hfin
            go_wp2
            go_ret
            have hgS := grownBy_setCell (b := w4.heap.size) (grownBy_refl w8 _) 0 (.string kOr)
            refine ⟨some ⟨w4.heap.size, 0, none⟩, rfl, grown_set 0 _ (grownBy_trans hgM hg8) hF, ?_⟩
            rw [HFIN.out]
            refine ⟨_, _, rfl, hp8.off hgS (by omega) (by omega), ?_⟩
            have hkk := KidsL.kept (S' := KidS w4.heap.size (.slice (some ⟨g1, 0, none⟩) (n + 1) cp1)) (W' := w8.setCell ⟨w4.heap.size, 0, none⟩ (.string kOr)) (fun b hb hlt => ⟨hb, by
              have h1 := hb.1
              rw [hgS.block b (Nat.lt_of_lt_of_le hlt hg8.size) (by simp; omega), hg8.block b hlt (by simp; omega)]⟩) HKM.out
            exact kids_done hF (block5_set HF8.out) (((HOM.out.kept hg8 (.inr hkvP)).kept hgS (.inr hkvF)).congrMap) (by simp; exact HNK.out) (by omega) (by omega) hkk
          · have hsh' : headIs r kShut = false := by simpa using hsh
            refine (is_no hp7 hsh').mono ?_
            rintro r' w8 ⟨rfl, hg8, v8, hp8⟩
            have HLS := Lib.hid hlen1
            by_cases hor : headIs r kOr = true
            · go_wp2_with (go_at_call 17; refine (is_yes hp8 hor).mono ?_; rintro r' w9 ⟨rfl, hg9, v9, hp9⟩)
              go_roundg m
              case measure => omega
              case rel =>
                have hgA : wM.grownBy w9 (some P) := (grownBy_trans hg8 (hg9))
                have hlt := HLS.out
                refine ⟨grownBy_trans hgM hgA, _, n + 1, 2, _, rfl, by omega, (hgA.block _ hFM (by simpa using hFP)).trans HFM.out, HOM.out.kept hgA (.inr hkvP), by omega, .inl ⟨v9, r.tail, acc ++ [a], ks ++ [B], hp9, by simp, by simp; exact HNK.out, HKM.out.kept (fun b hb hlt => ⟨hb, by have h1 := hb.1; rw [hgA.block b hlt (by simp; omega)]⟩), ?_, by rw [List.length_tail]; omega⟩⟩
                rw [HL.out]; exact lst_or HON.out hsh' (.inl rfl) (by decide) hor
            · have hor' : headIs r kOr = false := by simpa using hor
              go_wp2_with (first | (go_at_call 12; refine (fail_any hp9 3).mono ?_; rintro r' w10 ⟨⟨rv, rfl⟩, hg10, hp10⟩; rw [if_pos rfl, if_pos rfl] at hp10) | (go_at_call 17; refine (is_no hp8 hor').mono ?_; rintro r' w9 ⟨rfl, hg9, v9, hp9⟩))
              go_roundg m
              case measure => omega
              case rel =>
                have hgA : wM.grownBy w10 (some P) := (grownBy_trans hg8 ( grownBy_trans hg9 (hg10)))
                have hlt := HLS.out
                refine ⟨grownBy_trans hgM hgA, _, n + 1, 2, _, rfl, by omega, (hgA.block _ hFM (by simpa using hFP)).trans HFM.out, HOM.out.kept hgA (.inr hkvP), by omega, .inr ⟨3, _, _, r, by omega, hp10, ?_⟩⟩
                rw [HL.out]; exact lst_bad HON.out hsh' (.inl rfl) (.inr hor')
--ENDCASES--
    · obtain ⟨p0, p1, p2, p3, p4, q0, q1, q2, q3, q4⟩ := block5 hp.blk
      obtain ⟨f0, f1, f2, f3, f4, e0, e1, e2, e3, e4⟩ := block5 hf
      have HG := Lib.hid hg; have HP := Lib.hid hp; have HL := Lib.hid hl
      clear hg hf ho hp hl
      have hwd3 : wd = 0 ∨ wd = 1 ∨ wd = 2 := by omega
      clear hwd
      rcases hwd3 with rfl | rfl | rfl
      · obtain rfl : ws = ⟨#[]⟩ := HWS.out
        go_wp2
        go_ret
        exact ⟨some ⟨w4.heap.size, 0, none⟩, rfl, HG.out, by rw [HL.out]; exact ⟨_, _, HP.out⟩⟩
      · obtain rfl : ws = ⟨#[97, 110, 100]⟩ := HWS.out
        go_wp2
        go_ret
        exact ⟨some ⟨w4.heap.size, 0, none⟩, rfl, HG.out, by rw [HL.out]; exact ⟨_, _, HP.out⟩⟩
      · obtain rfl : ws = ⟨#[111, 114]⟩ := HWS.out
        go_wp2
        go_ret
        refine ⟨some ⟨w4.heap.size, 0, none⟩, rfl, grown_set 0 _ HG.out hF, ?_⟩
        rw [HL.out]
        exact ⟨_, _, HP.out.off (grownBy_setCell (grownBy_refl _ _) 0 _) (by omega) (by omega)⟩
end Go.Proofs.YtfjfbiocjloilaaDoor
