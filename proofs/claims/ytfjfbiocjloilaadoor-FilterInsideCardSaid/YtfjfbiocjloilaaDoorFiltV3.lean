/-
  What is proved here: the program's reader: a list in parentheses (11.2).
-/
import Derived.Test.YtfjfbiocjloilaaDoorFiltV2
namespace Go.Proofs.YtfjfbiocjloilaaDoor
open Go.RowKit Go.Sort

abbrev tIf : Nat := 29
theorem infoIf : (Tryd.prog.info? 29).map (fun i => (i.zero, i.size, i.bytes)) = some (some .nilIface, 1, 16) := by kernel_rfl
theorem VAst.iface {S : Nat → Prop} {W : World} {v : Value} : ∀ {a : Ast}, VAst S W v a → ∃ t p, v = .iface t p
  | .any, h => by unfold VAst at h; exact ⟨_, _, h⟩
  | .test .., h => by unfold VAst at h; exact ⟨_, _, h.1⟩
  | .has .., h => by unfold VAst at h; exact ⟨_, _, h.1⟩
  | .not a, h => by unfold VAst at h; obtain ⟨u, h, _⟩ := h; exact ⟨_, _, h⟩
  | .several o l, h => by unfold VAst at h; obtain ⟨_, g, c, h, _⟩ := h; exact ⟨_, _, h⟩
/-- Filters that have been read. -/
def VKidsL (S : Nat → Prop) (W : World) : List Value → List Ast → Prop
  | [], [] => True
  | k :: ks, a :: l => VAst S W k a ∧ VKidsL S W ks l
  | _, _ => False
theorem VKidsL.snoc {S : Nat → Prop} {W : World} {k : Value} {a : Ast} (hk : VAst S W k a) : ∀ {ks : List Value} {l : List Ast}, VKidsL S W ks l → VKidsL S W (ks ++ [k]) (l ++ [a])
  | [], [], _ => ⟨hk, trivial⟩
  | _ :: _, _ :: _, h => ⟨h.1, VKidsL.snoc hk h.2⟩
  | [], _ :: _, h => h.elim
  | _ :: _, [], h => h.elim
theorem VKidsL.kept {S S' : Nat → Prop} {W W' : World} (hk : ∀ b, S b → b < W.heap.size → S' b ∧ W'.heap[b]? = W.heap[b]?) : ∀ {ks : List Value} {l : List Ast}, VKidsL S W ks l → VKidsL S' W' ks l
  | [], [], _ => trivial
  | _ :: _, _ :: _, h => ⟨h.1.kept hk, VKidsL.kept hk h.2⟩
  | [], _ :: _, h => h.elim
  | _ :: _, [], h => h.elim
theorem VKidsL.len {S : Nat → Prop} {W : World} : ∀ {ks : List Value} {l : List Ast}, VKidsL S W ks l → ks.length = l.length
  | [], [], _ => rfl
  | _ :: _, _ :: _, h => congrArg (· + 1) (VKidsL.len h.2)
  | [], _ :: _, h => h.elim
  | _ :: _, [], h => h.elim
theorem vkids_of {S : Nat → Prop} {W : World} {g : Nat} : ∀ {ks : List Value} {l : List Ast} {i : Nat}, (∀ j (h : j < ks.length), W.cell? ⟨g, i + j, none⟩ = some ks[j]) → VKidsL S W ks l → VKids S W g i l
  | [], [], _, _, _ => by unfold VKids; trivial
  | k :: ks, a :: l, i, hc, h => by
    unfold VKids
    refine ⟨⟨k, by have := hc 0 (by simp); simpa using this, h.1⟩, vkids_of (fun j hj => ?_) h.2⟩
    have := hc (j + 1) (by simpa using hj)
    rw [show i + 1 + j = i + (j + 1) by omega]
    simpa using this
  | [], _ :: _, _, _, h => h.elim
  | _ :: _, [], _, _, h => h.elim
abbrev sevObj (kv : Value) (b : Bool) : Obj := .cells #[kv, .bool b] 57 (0, 0)
theorem vkids_done {w W : World} {X n : Nat} {kv : Value} {ks : List Value} {l : List Ast} {o : Bool} (hX : w.heap.size ≤ X)
    (ho : W.ownsRow (X + 1) tIf 1 kv n ks) (hn : n = ks.length) (h0 : 0 < n) (h9 : n ≤ 200000) (hk : VKidsL (KidS X kv) W ks l) : VAst (fun b => w.heap.size ≤ b) W (.iface 57 (.agg #[kv, .bool o])) (.several o l) := by
  have hl := hk.len
  obtain ⟨g, c, rfl, hg, hc⟩ := row_cells ho h0 (by simp [hn])
  unfold VAst
  exact ⟨⟨by omega, by omega⟩, g, c, by rw [← hl, ← hn], by omega, vkids_of (ks := ks) (fun j hj => by have := hc j (by simpa using hj); simpa using this) (hk.kept fun b hb _ => ⟨by have := hb.1; omega, rfl⟩)⟩
/-- Behind the append. -/
def MidV (w : World) (R T : Nat) (wv pv : Value) (ts : List Tok) (en X n : Nat) (kv : Value) (vs : List Value) (acc : List Ast) (k2 : Nat) (W : World) : Prop :=
  w.grownBy W (some R) ∧ W.heap[X]? = some (sevObj kv false) ∧ W.ownsRow (X + 1) tIf 1 kv (n + 1) vs ∧ RS W R T wv pv ts k2 en ∧ VKidsL (KidS X kv) W vs acc
theorem RS.offO {W W' : World} {R T : Nat} {r : Option Nat} {wv pv : Value} {ts : List Tok} {k en : Nat} (h : RS W R T wv pv ts k en) (hg : W.grownBy W' r) (hr : ∀ b, r = some b → T ≤ b ∧ b ≠ R) : RS W' R T wv pv ts k en := by
  cases r with
  | none => exact h.grown hg
  | some b => exact h.off hg (hr b rfl).1 (hr b rfl).2
theorem listv_round {w wr w5 w6 : World} {R T en X n g1 cp1 k2 : Nat} {wv pv kv v : Value} {ts : List Tok} {vs : List Value} {acc : List Ast} {a : Ast} (hRw : R < w.heap.size) (hT : T ≤ w.heap.size) (hX : w.heap.size ≤ X) (hXr : X < wr.heap.size)
    (hg : w.grownBy wr (some R)) (hg5 : wr.grownBy w5 (some R)) (hf5 : w5.heap[X]? = some (sevObj kv false)) (ho : wr.ownsRow (X + 1) tIf 1 kv n vs) (hk : VKidsL (KidS X kv) wr vs acc)
    (hp : RS w5 R T wv pv ts k2 en) (hr : VAst (fun b => wr.heap.size ≤ b) w5 v a)
    (ho6 : w6.ownsRow (X + 1) tIf 1 (.slice (some ⟨g1, 0, none⟩) (n + 1) cp1) (n + 1) (vs ++ [v])) (hgr6 : w5.grownBy w6 kv.ownBlock) (hat6 : kv.ownBlock = some g1 ∨ g1 = w5.heap.size + 1) :
    MidV w R T wv pv ts en X n (.slice (some ⟨g1, 0, none⟩) (n + 1) cp1) (vs ++ [v]) (acc ++ [a]) k2 (w6.setCell ⟨X, 0, none⟩ (.slice (some ⟨g1, 0, none⟩) (n + 1) cp1)) := by
  have hkv : ∀ b, kv.ownBlock = some b → X + 1 ≤ b ∧ b < wr.heap.size := fun b hb => ho.lt b hb
  have hs5 := hg5.size
  have hs6 := hgr6.size
  have hgX : X + 1 ≤ g1 := by
    rcases hat6 with h | h
    · exact (hkv _ h).1
    · omega
  have hbw : w.grownBy w6 (some R) := by
    have h5 := grownBy_trans hg hg5
    refine ⟨hgr6.os.trans h5.os, hgr6.tape.trans h5.tape, hgr6.output.trans h5.output, Nat.le_trans h5.size hs6, fun k hk hr => (hgr6.block k (Nat.lt_of_lt_of_le hk h5.size) (fun e => ?_)).trans (h5.block k hk hr)⟩
    have := (hkv k e.symm).1
    omega
  have hf6 : w6.heap[X]? = some (sevObj kv false) := (hgr6.block X (by omega) (fun e => by have := (hkv X e.symm).1; omega)).trans hf5
  have hset := fun (k : Nat) (hk : k ≠ X) => Below.heap_setCell w6 ⟨X, 0, none⟩ (.slice (some ⟨g1, 0, none⟩) (n + 1) cp1) k hk
  refine ⟨grown_set 0 _ hbw hX, by simp [World.setCell, Array.getElem?_modify, hf6], ?_, ?_, ?_⟩
  · exact ho6.kept (grownBy_setCell (b := X) (grownBy_refl _ _) 0 _) (.inr (by simp [Value.ownBlock]; omega))
  · exact (hp.offO hgr6 (fun b hb => by have := (hkv b hb).1; omega)).off (grownBy_setCell (grownBy_refl _ _) 0 _) (by omega) (by omega)
  · refine VKidsL.snoc (hr.kept fun b hb hlt => ?_) (hk.kept fun b hb hlt => ?_)
    · have hb1 : wr.heap.size ≤ b := hb
      have hne : g1 ≠ b := fun e => by
        rcases hat6 with h | h
        · have := (hkv _ h).2; omega
        · omega
      refine ⟨⟨by omega, by simpa [Value.ownBlock] using hne⟩, ?_⟩
      rw [hset b (by omega)]
      exact hgr6.block b hlt (fun e => by have := (hkv b e.symm).2; omega)
    · obtain ⟨hb1, hb2⟩ := hb
      have hne : g1 ≠ b := fun e => by
        rcases hat6 with h | h
        · exact hb2 (e ▸ h)
        · omega
      refine ⟨⟨hb1, by simpa [Value.ownBlock] using hne⟩, ?_⟩
      rw [hset b (by omega), hgr6.block b (by omega) (fun e => hb2 e.symm)]
      exact hg5.block b hlt (by simp; omega)

def OnesV (R T : Nat) (wv pv : Value) (ts : List Tok) (en d lo : Nat) : Prop :=
  ∀ (w : World) (k : Nat), RS w R T wv pv ts k en → EnvF lo w → T ≤ w.heap.size → Calls Tryd.prog 13 #[ptrP R, .int .i64 (d : Int)] w (OneV w R T wv pv ts en (one d (ts.drop k)))
/-- At the head of the loop over a list. -/
def LRelV (w : World) (R T : Nat) (wv pv : Value) (ts : List Tok) (en d X : Nat) (res : Res) (M g : Nat) (sv : Value) (W : World) : Prop :=
  w.grownBy W (some R) ∧ ∃ (kv : Value) (n wd k : Nat) (vs : List Value) (acc : List Ast), sv = .string (wordOf wd) ∧ wd < 3 ∧ W.heap[X]? = some (sevObj kv false) ∧ W.ownsRow (X + 1) tIf 1 kv n vs ∧ n + g ≤ M ∧ RS W R T wv pv ts k en ∧
    n = vs.length ∧ VKidsL (KidS X kv) W vs acc ∧ res = lst (one d) g wd acc (ts.drop k) ∧ (ts.drop k).length < g

set_option maxHeartbeats 4000000 in
set_option maxRecDepth 100000 in
theorem listv {R T en lo d M k : Nat} {wv pv : Value} {ts : List Tok} (hd : d < 20) (IH : OnesV R T wv pv ts en d lo) {w : World} (h : RS w R T wv pv ts k en) (hE : EnvF lo w) (hR : lo ≤ R) (hT : T ≤ w.heap.size)
    (hM : (ts.drop k).length < M) (hM2 : M ≤ 100001) :
    Calls Tryd.prog 22 #[ptrP R, .int .i64 ((d + 1 : Nat) : Int)] w (OneV w R T wv pv ts en (lst (one d) M 0 [] (ts.drop k))) := by
  have H := Lib.hid h; have HE := Lib.hid hE; have HH := Lib.hid IH
  obtain ⟨a, ha⟩ : ∃ a : Int, a = ((d + 1 : Nat) : Int) := ⟨_, rfl⟩
  rw [← ha]
  have ha3 : a - 1 = (d : Int) := by omega
  have HA := Lib.hid ha3
  have ha4 : 1 ≤ a := by omega
  have ha5 : a ≤ 20 := by omega
  have hRl := h.lt
  obtain ⟨res, hres⟩ : ∃ res, res = lst (one d) M 0 [] (ts.drop k) := ⟨_, rfl⟩
  have HRS := Lib.hid hres
  rw [← hres]
  have HM := Lib.hid hM
  clear h hE IH ha3 ha hres hM
  go_enter Tryd.func22, Tryd.ntmps22
  go_wp2
  go_loopg [7] M (LRelV w R T wv pv ts en d w.heap.size res M)
  case atStart =>
    exact ⟨World.grownBy_alloc _ _ _, .slice none 0 0, 0, 0, k, [], [], rfl, by omega, heap_alloc_new w (sevObj (.slice none 0 0) false), World.ownsRow_nil _ _ _ _, by omega, H.out.grown (World.grownBy_alloc _ _ _), rfl, trivial, HRS.out, HM.out⟩
  case round =>
    obtain ⟨hg, kv, n, wd, k1, vs, acc, hsv, hwd, hf, ho, hnl, hp, hnk, hk, hl, hlen⟩ := hrel
    obtain ⟨ws, hws⟩ : ∃ ws, ws = wordOf wd := ⟨_, rfl⟩
    rw [← hws] at hsv
    subst hsv
    have HWS := Lib.hid hws
    clear hws
    obtain ⟨m, rfl⟩ : ∃ m, gk = m + 1 := ⟨gk - 1, by omega⟩
    have hXl : w.heap.size < wr.heap.size := (Array.getElem?_eq_some_iff.1 hf).1
    have hkvb : ∀ b, kv.ownBlock = some b → w.heap.size + 1 ≤ b ∧ b < wr.heap.size := fun b hb => ho.lt b hb
    have hcall := HH.out wr k1 hp (HE.out.grown hg hR) (by omega)
    have HG := Lib.hid hg; have HF := Lib.hid hf; have HO := Lib.hid ho; have HP := Lib.hid hp; have HNK := Lib.hid hnk; have HK := Lib.hid hk; have HL := Lib.hid hl; have HKV := Lib.hid hkvb
    clear hg hf ho hp hnk hk hl hkvb
    cases hone1 : one d (ts.drop k1) with
    | err e r =>
      rw [hone1] at hcall
      have HC := Lib.hid hcall
      have hres : res = .err e r := by rw [HL.out]; unfold lst; rw [hone1]
      have HRES := Lib.hid hres
      clear hcall hone1 hres
      go_wp2_with (go_at_call 13; refine Calls.mono (by rw [HA.out]; exact HC.out) ?_; rintro r' w3 ⟨fv, ev, rfl, hg3, ⟨eb, rfl, hE3⟩, _⟩)
      go_ret2
      refine ⟨_, _, rfl, grownBy_trans HG.out hg3, ?_⟩
      rw [HRES.out]
      exact ⟨⟨eb, rfl, hE3⟩, .inl rfl⟩
    | ok a' r =>
      rw [hone1] at hcall
      have HC := Lib.hid hcall
      have hlen1 := one_len d _ _ _ hone1
      have HON := Lib.hid hone1; have HLS := Lib.hid hlen1
      clear hcall hone1 hlen1
      go_wp2_with (first
        | (at_builtin; refine wpList_append_fresh rfl _ _ 55 rfl (w.heap.size + 1) 29 .nilIface 1 16 Tryd.underlying55 infoIf rfl (by decide) kv _ _ rfl w5 hown 1 [.iface ft fp] 0 rfl rfl rfl (by simp [Value.oneCell']) (by decide) (by omega) (by omega) hsz5 ?_; intro g1 cp1 w6 ho6 hgr6 hat6 hlt6; have hf6 := (hgr6.block w.heap.size (by omega) (fun e => by have := (HKV.out _ e.symm).1; omega)).trans hf5; obtain ⟨d0, d1, i0, i1⟩ := block2 hf6; have HO6 := Lib.hid ho6; have HGR6 := Lib.hid hgr6; have HAT6 := Lib.hid hat6; clear hf6 ho6 hgr6 hat6)
        | (go_at_call 13; refine Calls.mono (by rw [HA.out]; exact HC.out) ?_; rintro r' w5 ⟨fv, ev, rfl, hg5, rfl, k2, hk2, hr5, hv5⟩; obtain ⟨ft, fp, rfl⟩ := hv5.iface; have hf5 := (hg5.block w.heap.size hXl (by simp; omega)).trans HF.out; obtain ⟨b0, b1, c0, c1⟩ := block2 hf5; have hsz5 : w.heap.size + 1 ≤ w5.heap.size := (by have := hg5.size; omega); have hown : w5.ownsRow (w.heap.size + 1) tIf 1 kv n vs := HO.out.kept hg5 (by
            cases hv : kv.ownBlock with
            | none => exact .inl rfl
            | some b => exact .inr (fun e => by have := (HKV.out b hv).1; cases e; omega)); have HG5 := Lib.hid hg5; have HR5 := Lib.hid hr5; have HV5 := Lib.hid hv5; have HK2 := Lib.hid hk2; clear hg5 hr5 hv5 hk2))
      refine calls_forget (MidV w R T wv pv ts en w.heap.size n (.slice (some ⟨g1, 0, none⟩) (n + 1) cp1) (vs ++ [.iface ft fp]) (acc ++ [a']) k2) (listv_round hRl hT (Nat.le_refl _) hXl HG.out HG5.out hf5 HO.out HK.out HR5.out HV5.out HO6.out HGR6.out HAT6.out) ?_
      rintro wM ⟨hgM, hfM, hoM, hpM, hkM⟩
      obtain rfl := HK2.out
      have hFM : w.heap.size < wM.heap.size := (Array.getElem?_eq_some_iff.1 hfM).1
      have hgX : w.heap.size + 1 ≤ g1 := by
        rcases HAT6.out with h | h
        · exact (HKV.out _ h).1
        · have := HG5.out.size; omega
      have hkvR : (Value.slice (some ⟨g1, 0, none⟩) (n + 1) cp1).ownBlock ≠ some R := by simp [Value.ownBlock]; omega
      have hkvX : (Value.slice (some ⟨g1, 0, none⟩) (n + 1) cp1).ownBlock ≠ some w.heap.size := by simp [Value.ownBlock]; omega
      have HFM := Lib.hid hfM; have HOM := Lib.hid hoM; have HKM := Lib.hid hkM
      clear hfM hoM hkM HO6 HGR6 HAT6 HKV HG5 hf5 hown b0 b1 c0 c1 d0 d1 i0 i1 HR5 HV5 HK2 HC hlt6 hsz5
      have hwd3 : wd = 0 ∨ wd = 1 ∨ wd = 2 := by omega
      clear hwd
      rcases hwd3 with rfl | rfl | rfl
--CASES--
      · obtain rfl : ws = ⟨#[]⟩ := HWS.out
        by_cases hsh : headIs (ts.drop k2) kShut = true
        · refine (take_yes hpM hsh).mono ?_
          rintro r' w8 ⟨rfl, hg8, hp8⟩
          have hfin : res = .ok (.several false (acc ++ [a'])) (ts.drop (k2 + 1)) := by
            rw [HL.out, ← drop_tail]; unfold lst; rw [HON.out]; simp only [hsh, if_true]; rfl
          have hf8 := (hg8.block _ hFM (by simp; omega)).trans HFM.out
          obtain ⟨y0, y1, z0, z1⟩ := block2 hf8
          have HFIN := Lib.hid hfin
          clear hf8 hfin
          go_wp2
          go_ret2
          have hgS := grownBy_setCell (b := w.heap.size) (grownBy_refl w8 _) 1 (.bool false)
          refine ⟨_, _, rfl, grown_set 1 _ (grownBy_trans hgM hg8) (Nat.le_refl _), ?_⟩
          rw [HFIN.out]
          refine ⟨rfl, k2 + 1, rfl, hp8.off hgS (by omega) (by omega), ?_⟩
          refine vkids_done (Nat.le_refl _) ((HOM.out.kept hg8 (.inr hkvR)).kept hgS (.inr hkvX)) (by simp; exact HNK.out) (by omega) (by omega) (HKM.out.kept fun b hb hlt => ⟨hb, ?_⟩)
          have h1 := hb.1
          rw [hgS.block b (Nat.lt_of_lt_of_le hlt hg8.size) (by simp; omega), hg8.block b hlt (by simp; omega)]
        · have hsh' : headIs (ts.drop k2) kShut = false := by simpa using hsh
          refine (take_no hpM hsh').mono ?_
          rintro r' w8 ⟨rfl, hg8, hp8⟩
          by_cases han : headIs (ts.drop k2) kAnd = true
          · go_wp2_with (go_at_call 21; refine (take_yes hp8 han).mono ?_; rintro r' w9 ⟨rfl, hg9, hp9⟩)
            go_roundg m
            case measure => omega
            case rel =>
              have hgA : wM.grownBy w9 (some R) := (grownBy_trans hg8 (hg9))
              have hlt := HLS.out
              refine ⟨grownBy_trans hgM hgA, _, n + 1, 1, k2 + 1, _, _, rfl, by omega, (hgA.block _ hFM (by simp; omega)).trans HFM.out, HOM.out.kept hgA (.inr hkvR), by omega, hp9, by simp; exact HNK.out, HKM.out.kept (fun b hb hlt => ⟨hb, by have h1 := hb.1; rw [hgA.block b hlt (by simp; omega)]⟩), ?_, by simp only [List.length_drop] at hlt hlen ⊢; omega⟩
              rw [HL.out, ← drop_tail]; exact lst_and HON.out hsh' (by decide) han
          · have han' : headIs (ts.drop k2) kAnd = false := by simpa using han
            by_cases hor : headIs (ts.drop k2) kOr = true
            · go_wp2_with (first | (go_at_call 21; refine (take_yes hp9 hor).mono ?_; rintro r' w10 ⟨rfl, hg10, hp10⟩) | (go_at_call 21; refine (take_no hp8 han').mono ?_; rintro r' w9 ⟨rfl, hg9, hp9⟩))
              go_roundg m
              case measure => omega
              case rel =>
                have hgA : wM.grownBy w10 (some R) := (grownBy_trans hg8 ( grownBy_trans hg9 (hg10)))
                have hlt := HLS.out
                refine ⟨grownBy_trans hgM hgA, _, n + 1, 2, k2 + 1, _, _, rfl, by omega, (hgA.block _ hFM (by simp; omega)).trans HFM.out, HOM.out.kept hgA (.inr hkvR), by omega, hp10, by simp; exact HNK.out, HKM.out.kept (fun b hb hlt => ⟨hb, by have h1 := hb.1; rw [hgA.block b hlt (by simp; omega)]⟩), ?_, by simp only [List.length_drop] at hlt hlen ⊢; omega⟩
                rw [HL.out, ← drop_tail]; exact lst_or HON.out hsh' (.inr han') (by decide) hor
            · have hor' : headIs (ts.drop k2) kOr = false := by simpa using hor
              go_wp2_with (first | (go_at_call 14; refine (failp hp10 3).mono ?_; rintro r' w11 ⟨eb, rfl, hpe, hbe⟩) | (go_at_call 21; refine (take_no hp9 hor').mono ?_; rintro r' w10 ⟨rfl, hg10, hp10⟩) | (go_at_call 21; refine (take_no hp8 han').mono ?_; rintro r' w9 ⟨rfl, hg9, hp9⟩))
              go_ret2
              have hgA : wM.grownBy w10 (some R) := (grownBy_trans hg8 ( grownBy_trans hg9 (hg10)))
              refine ⟨_, _, rfl, grownR_below (grownBy_trans hgM hgA) hbe, ?_⟩
              have hres : res = .err 3 (ts.drop k2) := by rw [HL.out]; exact lst_bad HON.out hsh' (.inr han') (.inr hor')
              rw [hres]
              exact ⟨hpe, .inl rfl⟩
      · obtain rfl : ws = ⟨#[97, 110, 100]⟩ := HWS.out
        by_cases hsh : headIs (ts.drop k2) kShut = true
        · refine (take_yes hpM hsh).mono ?_
          rintro r' w8 ⟨rfl, hg8, hp8⟩
          have hfin : res = .ok (.several false (acc ++ [a'])) (ts.drop (k2 + 1)) := by
            rw [HL.out, ← drop_tail]; unfold lst; rw [HON.out]; simp only [hsh, if_true]; rfl
          have hf8 := (hg8.block _ hFM (by simp; omega)).trans HFM.out
          obtain ⟨y0, y1, z0, z1⟩ := block2 hf8
          have HFIN := Lib.hid hfin
          clear hf8 hfin
          go_wp2
          go_ret2
          have hgS := grownBy_setCell (b := w.heap.size) (grownBy_refl w8 _) 1 (.bool false)
          refine ⟨_, _, rfl, grown_set 1 _ (grownBy_trans hgM hg8) (Nat.le_refl _), ?_⟩
          rw [HFIN.out]
          refine ⟨rfl, k2 + 1, rfl, hp8.off hgS (by omega) (by omega), ?_⟩
          refine vkids_done (Nat.le_refl _) ((HOM.out.kept hg8 (.inr hkvR)).kept hgS (.inr hkvX)) (by simp; exact HNK.out) (by omega) (by omega) (HKM.out.kept fun b hb hlt => ⟨hb, ?_⟩)
          have h1 := hb.1
          rw [hgS.block b (Nat.lt_of_lt_of_le hlt hg8.size) (by simp; omega), hg8.block b hlt (by simp; omega)]
        · have hsh' : headIs (ts.drop k2) kShut = false := by simpa using hsh
          refine (take_no hpM hsh').mono ?_
          rintro r' w8 ⟨rfl, hg8, hp8⟩
          by_cases han : headIs (ts.drop k2) kAnd = true
          · go_wp2_with (go_at_call 21; refine (take_yes hp8 han).mono ?_; rintro r' w9 ⟨rfl, hg9, hp9⟩)
            go_roundg m
            case measure => omega
            case rel =>
              have hgA : wM.grownBy w9 (some R) := (grownBy_trans hg8 (hg9))
              have hlt := HLS.out
              refine ⟨grownBy_trans hgM hgA, _, n + 1, 1, k2 + 1, _, _, rfl, by omega, (hgA.block _ hFM (by simp; omega)).trans HFM.out, HOM.out.kept hgA (.inr hkvR), by omega, hp9, by simp; exact HNK.out, HKM.out.kept (fun b hb hlt => ⟨hb, by have h1 := hb.1; rw [hgA.block b hlt (by simp; omega)]⟩), ?_, by simp only [List.length_drop] at hlt hlen ⊢; omega⟩
              rw [HL.out, ← drop_tail]; exact lst_and HON.out hsh' (by decide) han
          · have han' : headIs (ts.drop k2) kAnd = false := by simpa using han
            go_wp2_with (first | (go_at_call 14; refine (failp hp9 3).mono ?_; rintro r' w10 ⟨eb, rfl, hpe, hbe⟩) | (go_at_call 21; refine (take_no hp8 han').mono ?_; rintro r' w9 ⟨rfl, hg9, hp9⟩))
            go_ret2
            have hgA : wM.grownBy w9 (some R) := (grownBy_trans hg8 (hg9))
            refine ⟨_, _, rfl, grownR_below (grownBy_trans hgM hgA) hbe, ?_⟩
            have hres : res = .err 3 (ts.drop k2) := by rw [HL.out]; exact lst_bad HON.out hsh' (.inr han') (.inl rfl)
            rw [hres]
            exact ⟨hpe, .inl rfl⟩
      · obtain rfl : ws = ⟨#[111, 114]⟩ := HWS.out
        by_cases hsh : headIs (ts.drop k2) kShut = true
        · refine (take_yes hpM hsh).mono ?_
          rintro r' w8 ⟨rfl, hg8, hp8⟩
          have hfin : res = .ok (.several true (acc ++ [a'])) (ts.drop (k2 + 1)) := by
            rw [HL.out, ← drop_tail]; unfold lst; rw [HON.out]; simp only [hsh, if_true]; rfl
          have hf8 := (hg8.block _ hFM (by simp; omega)).trans HFM.out
          obtain ⟨y0, y1, z0, z1⟩ := block2 hf8
          have HFIN := Lib.hid hfin
          clear hf8 hfin
          go_wp2
          go_ret2
          have hgS := grownBy_setCell (b := w.heap.size) (grownBy_refl w8 _) 1 (.bool true)
          refine ⟨_, _, rfl, grown_set 1 _ (grownBy_trans hgM hg8) (Nat.le_refl _), ?_⟩
          rw [HFIN.out]
          refine ⟨rfl, k2 + 1, rfl, hp8.off hgS (by omega) (by omega), ?_⟩
          refine vkids_done (Nat.le_refl _) ((HOM.out.kept hg8 (.inr hkvR)).kept hgS (.inr hkvX)) (by simp; exact HNK.out) (by omega) (by omega) (HKM.out.kept fun b hb hlt => ⟨hb, ?_⟩)
          have h1 := hb.1
          rw [hgS.block b (Nat.lt_of_lt_of_le hlt hg8.size) (by simp; omega), hg8.block b hlt (by simp; omega)]
        · have hsh' : headIs (ts.drop k2) kShut = false := by simpa using hsh
          refine (take_no hpM hsh').mono ?_
          rintro r' w8 ⟨rfl, hg8, hp8⟩
          by_cases hor : headIs (ts.drop k2) kOr = true
          · go_wp2_with (go_at_call 21; refine (take_yes hp8 hor).mono ?_; rintro r' w9 ⟨rfl, hg9, hp9⟩)
            go_roundg m
            case measure => omega
            case rel =>
              have hgA : wM.grownBy w9 (some R) := (grownBy_trans hg8 (hg9))
              have hlt := HLS.out
              refine ⟨grownBy_trans hgM hgA, _, n + 1, 2, k2 + 1, _, _, rfl, by omega, (hgA.block _ hFM (by simp; omega)).trans HFM.out, HOM.out.kept hgA (.inr hkvR), by omega, hp9, by simp; exact HNK.out, HKM.out.kept (fun b hb hlt => ⟨hb, by have h1 := hb.1; rw [hgA.block b hlt (by simp; omega)]⟩), ?_, by simp only [List.length_drop] at hlt hlen ⊢; omega⟩
              rw [HL.out, ← drop_tail]; exact lst_or HON.out hsh' (.inl rfl) (by decide) hor
          · have hor' : headIs (ts.drop k2) kOr = false := by simpa using hor
            go_wp2_with (first | (go_at_call 14; refine (failp hp9 3).mono ?_; rintro r' w10 ⟨eb, rfl, hpe, hbe⟩) | (go_at_call 21; refine (take_no hp8 hor').mono ?_; rintro r' w9 ⟨rfl, hg9, hp9⟩))
            go_ret2
            have hgA : wM.grownBy w9 (some R) := (grownBy_trans hg8 (hg9))
            refine ⟨_, _, rfl, grownR_below (grownBy_trans hgM hgA) hbe, ?_⟩
            have hres : res = .err 3 (ts.drop k2) := by rw [HL.out]; exact lst_bad HON.out hsh' (.inl rfl) (.inr hor')
            rw [hres]
            exact ⟨hpe, .inl rfl⟩
--ENDCASES--
end Go.Proofs.YtfjfbiocjloilaaDoor
