/-
  What is proved here: the document's parser (11.2): where it stands, its first error, whether a sign comes next, a number of a filter.
-/
import Derived.Test.YtfjfbiocjloilaaDoorFiltW1
namespace Go.Proofs.YtfjfbiocjloilaaDoor
open Go.RowKit Go.Sort

theorem bytes_beq {s t : ByteArray} : (s == t) = decide (s = t) := by
  cases s with | mk a => cases t with | mk b =>
  show (a == b) = _
  rw [Bool.eq_iff_iff]
  simp
theorem headIs_cons {t : Tok} {r : List Tok} {s : ByteArray} : headIs (t :: r) s = decide (t.1 = s) := bytes_beq
abbrev hereOf (l : List Tok) (en : Nat) : Nat := (l.head?.map (·.2)).getD en
/-- A slice of signs outside block P. -/
def TokAt (P T : Nat) (W : World) (v : Value) (l : List Tok) : Prop :=
  ∃ a c, v = .slice a l.length c ∧ l.length ≤ c ∧ c ≤ 9223372036854775807 ∧ (0 < l.length → ∃ b o, a = some ⟨b, o, none⟩ ∧ b ≠ P ∧ b < T ∧ ∀ i (h : i < l.length), W.cell? ⟨b, o + i * 2, none⟩ = some (.string l[i].1) ∧ W.cell? ⟨b, o + i * 2 + 1, none⟩ = some (.int .i64 l[i].2))
theorem TokAt.grown {P T : Nat} {W W' : World} {v : Value} {l : List Tok} (h : TokAt P T W v l) (hg : W.grownBy W' (some P)) : TokAt P T W' v l := by
  obtain ⟨a, c, rfl, h1, h2, h3⟩ := h
  refine ⟨a, c, rfl, h1, h2, fun h0 => ?_⟩
  obtain ⟨b, o, rfl, hb, hbT, hc⟩ := h3 h0
  exact ⟨b, o, rfl, hb, hbT, fun i hi => ⟨hg.cell (hc i hi).1 (by simpa using hb), hg.cell (hc i hi).2 (by simpa using hb)⟩⟩
/-- The parser in block P. -/
structure PS (W : World) (P T : Nat) (v : Value) (l : List Tok) (en : Nat) (fe fp : Int) : Prop where
  blk : W.heap[P]? = some (.cells #[v, .int .i64 en, .int .i64 fe, .int .i64 fp, .int .i64 0] 44 (0, 0))
  tok : TokAt P T W v l
  wf : ∀ t ∈ l, t.1.size ≤ 2000 ∧ t.2 ≤ 2000
  len : l.length ≤ 100000
theorem PS.lt {W : World} {P T : Nat} {v : Value} {l : List Tok} {en : Nat} {fe fp : Int} (h : PS W P T v l en fe fp) : P < W.heap.size := (Array.getElem?_eq_some_iff.1 h.blk).1
theorem PS.grown {W W' : World} {P T : Nat} {v : Value} {l : List Tok} {en : Nat} {fe fp : Int} (h : PS W P T v l en fe fp) (hg : W.grownBy W' none) : PS W' P T v l en fe fp :=
  ⟨(hg.block P h.lt (by simp)).trans h.blk, h.tok.grown ⟨hg.os, hg.tape, hg.output, hg.size, fun k hk _ => hg.block k hk (by simp)⟩, h.wf, h.len⟩
theorem PS.below {W W' : World} {P T : Nat} {v : Value} {l : List Tok} {en : Nat} {fe fp : Int} (h : PS W P T v l en fe fp) (hg : Below W.heap.size W W') : PS W' P T v l en fe fp :=
  h.grown ⟨hg.os, hg.tape, hg.output, hg.size, fun k hk _ => hg.block k hk⟩
theorem EnvN.grown {w w' : World} {P : Nat} (h : EnvN w) (hg : w.grownBy w' (some P)) (hP : 9 ≤ P) : EnvN w' :=
  h.below (B := 9) ⟨hg.os, hg.tape, hg.output, hg.size, fun k hk => hg.block k (Nat.lt_of_lt_of_le hk h.hi) (by simp; omega)⟩ (Nat.le_refl _)

theorem tokAt_tail {P T : Nat} {W : World} {b o c : Nat} {t : Tok} {r : List Tok} (hc : ∀ i (h : i < (t :: r).length), W.cell? ⟨b, o + i * 2, none⟩ = some (.string (t :: r)[i].1) ∧ W.cell? ⟨b, o + i * 2 + 1, none⟩ = some (.int .i64 (t :: r)[i].2))
    (hb : b ≠ P) (hbT : b < T) (h1 : r.length + 1 ≤ c) (h2 : c ≤ 9223372036854775807) : TokAt P T W (.slice (some ⟨b, o + 2, none⟩) r.length (c - 1)) r := by
  refine ⟨_, c - 1, rfl, by omega, by omega, fun _ => ⟨b, o + 2, rfl, hb, hbT, fun i hi => ?_⟩⟩
  have := hc (i + 1) (by simpa using hi)
  simp only [List.getElem_cons_succ] at this
  rw [show o + 2 + i * 2 = o + (i + 1) * 2 by omega]
  exact this
theorem PS.set_f {W : World} {P T : Nat} {v : Value} {l : List Tok} {en : Nat} {fe fp : Int} (h : PS W P T v l en fe fp) (e p : Int) :
    PS ((W.setCell ⟨P, 2, none⟩ (.int .i64 e)).setCell ⟨P, 3, none⟩ (.int .i64 p)) P T v l en e p := by
  refine ⟨?_, h.tok.grown (grownBy_setCell (grownBy_setCell (grownBy_refl _ _) 2 _) 3 _), h.wf, h.len⟩
  have := h.blk
  simp [World.setCell, Array.getElem?_modify, this]
theorem PS.set_v {W : World} {P T : Nat} {v : Value} {l l' : List Tok} {en : Nat} {fe fp : Int} (h : PS W P T v l en fe fp) (v' : Value) (ht : TokAt P T W v' l') (hs : ∀ t ∈ l', t ∈ l) (hl : l'.length ≤ l.length) :
    PS (W.setCell ⟨P, 0, none⟩ v') P T v' l' en fe fp :=
  ⟨block5_set h.blk, ht.grown (grownBy_setCell (grownBy_refl _ _) 0 _), fun t m => h.wf t (hs t m), Nat.le_trans hl h.len⟩

abbrev ptrP (P : Nat) : Value := .pointer (some ⟨P, 0, none⟩)
set_option maxHeartbeats 1000000 in
set_option maxRecDepth 100000 in
theorem here_any {w : World} {P T : Nat} {v : Value} {l : List Tok} {en : Nat} {fe fp : Int} (h : PS w P T v l en fe fp) :
    Calls Tryd.prog 20 #[ptrP P] w fun e w' => e = .returned (.int .i64 (hereOf l en)) ∧ w' = w := by
  obtain ⟨y0, y1, y2, y3, y4, z0, z1, z2, z3, z4⟩ := block5 h.blk
  obtain ⟨a, c, rfl, h1, h2, h3⟩ := h.tok
  have H := Lib.hid h
  clear h
  cases l with
  | nil =>
    clear h3
    go_enter Tryd.func20, Tryd.ntmps20
    go_wp2
    go_ret
    exact ⟨rfl, rfl⟩
  | cons t r =>
    obtain ⟨b, o, rfl, hb, hbT, hc⟩ := h3 (by simp)
    obtain ⟨c1, c2⟩ := hc 0 (by simp)
    simp only [Nat.zero_mul, Nat.add_zero, List.getElem_cons_zero] at c1 c2
    have hl : (t :: r).length = r.length + 1 := rfl
    rw [hl] at h1 y0
    clear hc h3
    go_enter Tryd.func20, Tryd.ntmps20
    go_wp2
    go_ret
    exact ⟨rfl, rfl⟩

def FailP (w : World) (P T : Nat) (v : Value) (l : List Tok) (en : Nat) (fe fp e : Int) (r : Ending) (w' : World) : Prop :=
  (∃ rv, r = .returned rv) ∧ w.grownBy w' (some P) ∧ PS w' P T v l en (if fe = 0 then e else fe) (if fe = 0 then hereOf l en else fp)
set_option maxHeartbeats 1000000 in
set_option maxRecDepth 100000 in
theorem fail_any {w : World} {P T : Nat} {v : Value} {l : List Tok} {en : Nat} {fe fp : Int} (h : PS w P T v l en fe fp) (e : Int) :
    Calls Tryd.prog 12 #[ptrP P, .int .i64 e] w (FailP w P T v l en fe fp e) := by
  obtain ⟨y0, y1, y2, y3, y4, z0, z1, z2, z3, z4⟩ := block5 h.blk
  have hh := here_any h
  have H := Lib.hid h; have HH := Lib.hid hh
  clear h hh
  by_cases hf : fe = 0
  · subst hf
    go_enter Tryd.func12, Tryd.ntmps12
    go_wp2_with (go_at_call 20; refine HH.out.mono ?_; rintro r w1 ⟨rfl, rfl⟩)
    go_end0
    refine ⟨⟨_, rfl⟩, grownBy_setCell (grownBy_setCell (grownBy_refl _ _) 2 _) 3 _, ?_⟩
    rw [if_pos rfl, if_pos rfl]
    exact H.out.set_f _ _
  · go_enter Tryd.func12, Tryd.ntmps12
    go_wp2
    go_end0
    refine ⟨⟨_, rfl⟩, grownBy_refl _ _, ?_⟩
    rw [if_neg hf, if_neg hf]
    exact H.out

/-- Whether the sign s comes next: then it is behind. -/
def IsP (w : World) (P T : Nat) (l : List Tok) (en : Nat) (fe fp : Int) (s : ByteArray) (r : Ending) (w' : World) : Prop :=
  w.grownBy w' (some P) ∧ ∃ v', r = .returned (.bool (decide (fe = 0) && headIs l s)) ∧ PS w' P T v' (if (decide (fe = 0) && headIs l s) = true then l.tail else l) en fe fp
set_option maxHeartbeats 1000000 in
set_option maxRecDepth 100000 in
theorem is_any {w : World} {P T : Nat} {v : Value} {l : List Tok} {en : Nat} {fe fp : Int} (h : PS w P T v l en fe fp) (s : ByteArray) :
    Calls Tryd.prog 17 #[ptrP P, .string s] w (IsP w P T l en fe fp s) := by
  obtain ⟨y0, y1, y2, y3, y4, z0, z1, z2, z3, z4⟩ := block5 h.blk
  obtain ⟨a, c, rfl, h1, h2, h3⟩ := h.tok
  have H := Lib.hid h
  clear h
  by_cases hf : fe = 0
  · subst hf
    cases l with
    | nil =>
      clear h3
      go_enter Tryd.func17, Tryd.ntmps17
      go_wp2
      go_ret
      exact ⟨grownBy_refl _ _, _, rfl, H.out⟩
    | cons t r =>
      obtain ⟨b, o, rfl, hb, hbT, hc⟩ := h3 (by simp)
      obtain ⟨c1, c2⟩ := hc 0 (by simp)
      simp only [Nat.zero_mul, Nat.add_zero, List.getElem_cons_zero] at c1 c2
      have hl : (t :: r).length = r.length + 1 := rfl
      rw [hl] at h1 y0
      have HC := Lib.hid hc
      clear hc h3
      by_cases he : t.1 = s
      · have hse : (t.1.toList == s.toList) = true := by rw [str_eq]; simpa using he
        have hd : headIs (t :: r) s = true := by rw [headIs_cons]; simpa using he
        have HD := Lib.hid hd
        clear he hd
        go_enter Tryd.func17, Tryd.ntmps17
        go_wp2
        · rename_i hc1
          have hr : r = [] := by
            have : r.length = 0 := by omega
            simpa using this
          subst hr
          go_ret
          refine ⟨grownBy_setCell (grownBy_refl _ _) 0 _, .slice (some ⟨b, o, none⟩) 0 0, by rw [HD.out]; rfl, ?_⟩
          rw [HD.out]
          exact H.out.set_v _ ⟨_, _, rfl, Nat.le_refl _, by omega, fun h => absurd h (by simp)⟩ (fun t ht => List.mem_cons_of_mem _ ht) (by simp)
        · go_ret
          refine ⟨grownBy_setCell (grownBy_refl _ _) 0 _, .slice (some ⟨b, o + 2, none⟩) r.length (c - 1), by rw [HD.out]; rfl, ?_⟩
          rw [HD.out]
          exact H.out.set_v _ (tokAt_tail HC.out hb hbT (by omega) h2) (fun t ht => List.mem_cons_of_mem _ ht) (by simp)
      · have hse : (t.1.toList == s.toList) = false := by rw [str_eq]; simpa using he
        have hd : headIs (t :: r) s = false := by rw [headIs_cons]; simpa using he
        have HD := Lib.hid hd
        clear he hd
        go_enter Tryd.func17, Tryd.ntmps17
        go_wp2
        go_ret
        refine ⟨grownBy_refl _ _, .slice (some ⟨b, o, none⟩) (t :: r).length c, by rw [HD.out]; rfl, ?_⟩
        rw [HD.out]
        exact H.out
  · clear h3
    go_enter Tryd.func17, Tryd.ntmps17
    go_wp2
    go_ret
    have hd : decide (fe = 0) = false := by simpa using hf
    refine ⟨grownBy_refl _ _, .slice a l.length c, by rw [hd]; rfl, ?_⟩
    rw [hd]
    exact H.out

theorem within_any (n a b : Int) (w : World) : Calls Tryd.prog 29 #[.int .i64 n, .int .i64 a, .int .i64 b] w fun e w' => e = .returned (.bool (decide (a ≤ n) && decide (n ≤ b))) ∧ w' = w := by
  by_cases h1 : a ≤ n
  · by_cases h2 : n ≤ b
    · go_enter Tryd.func29, Tryd.ntmps29
      go_wp2
      go_ret
      exact ⟨by congr 2; simp; omega, rfl⟩
    · go_enter Tryd.func29, Tryd.ntmps29
      go_wp2
      go_ret
      exact ⟨by congr 2; simp; omega, rfl⟩
  · go_enter Tryd.func29, Tryd.ntmps29
    go_wp2
    go_ret
    exact ⟨by congr 2; simp; omega, rfl⟩

def FieldP (w : World) (P T : Nat) (v : Value) (l : List Tok) (en : Nat) (fe fp : Int) (s : ByteArray) (r : Ending) (w' : World) : Prop :=
  r = .returned (.int .i64 (numV s.data.toList)) ∧ w.grownBy w' (some P) ∧
    PS w' P T v l en (if fe = 0 then numE s.data.toList else fe) (if fe = 0 then (if numE s.data.toList = 0 then fp else hereOf l en) else fp)
set_option maxHeartbeats 1000000 in
set_option maxRecDepth 100000 in
theorem field_any {w : World} {P T : Nat} {v : Value} {l : List Tok} {en : Nat} {fe fp : Int} (h : PS w P T v l en fe fp) (hE : EnvN w) (s : ByteArray) (hs : s.size ≤ 2000) :
    Calls Tryd.prog 19 #[ptrP P, .string s] w (FieldP w P T v l en fe fp s) := by
  have hN := Number_any s w hE (by omega)
  have hps : ∀ w', Below w.heap.size w w' → PS w' P T v l en fe fp := fun w' hb => h.below hb
  have hgr : ∀ w', Below w.heap.size w w' → w.grownBy w' (some P) := fun w' hb => ⟨hb.os, hb.tape, hb.output, hb.size, fun k hk _ => hb.block k hk⟩
  have HN := Lib.hid hN; have HP := Lib.hid hps; have HG := Lib.hid hgr
  clear h hN hE hps hgr
  cases hno : numOf s.data.toList with
  | none =>
    have e1 : numE s.data.toList = 3 := by simp [numE, hno]
    have e2 : (numOf s.data.toList).isSome = false := by rw [hno]; rfl
    have E1 := Lib.hid e1
    clear hno e1
    go_enter Tryd.func19, Tryd.ntmps19
    go_wp2_with (first
      | (go_at_call 28; refine HN.out.mono ?_; rintro r w1 ⟨rfl, hb⟩)
      | (go_at_call 12; refine (fail_any (HP.out _ hb) 3).mono ?_; rintro r w2 ⟨⟨rv, rfl⟩, hg2, hp2⟩))
    go_ret
    refine ⟨rfl, grownBy_trans (HG.out _ hb) hg2, ?_⟩
    rw [E1.out]
    by_cases hf : fe = 0
    · simp only [hf, if_true] at hp2 ⊢; exact hp2
    · simp only [hf, if_false] at hp2 ⊢; exact hp2
  | some n =>
    have e2 : (numOf s.data.toList).isSome = true := by rw [hno]; rfl
    have e3 : numV s.data.toList = n := by simp [numV, hno]
    by_cases hin : 0 ≤ n ∧ n ≤ 1000000000
    · have e1 : numE s.data.toList = 0 := by simp [numE, hno, hin]
      have E1 := Lib.hid e1
      have e4 : (decide (0 ≤ n) && decide (n ≤ 1000000000)) = true := by simpa using hin
      clear hno e1 hin
      go_enter Tryd.func19, Tryd.ntmps19
      go_wp2_with (first
        | (go_at_call 28; refine HN.out.mono ?_; rintro r w1 ⟨rfl, hb⟩)
        | (go_at_call 29; refine (within_any _ _ _ _).mono ?_; rintro r w2 ⟨rfl, rfl⟩))
      go_ret
      refine ⟨by rw [e3]; rfl, HG.out _ hb, ?_⟩
      rw [E1.out]
      have := HP.out _ hb
      by_cases hf : fe = 0
      · simp only [hf, if_true] at this ⊢; exact this
      · simp only [hf, if_false] at this ⊢; exact this
    · have e1 : numE s.data.toList = 2 := by simp [numE, hno, hin]
      have E1 := Lib.hid e1
      have e4 : (decide (0 ≤ n) && decide (n ≤ 1000000000)) = false := by simpa using hin
      clear hno e1 hin
      go_enter Tryd.func19, Tryd.ntmps19
      go_wp2_with (first
        | (go_at_call 28; refine HN.out.mono ?_; rintro r w1 ⟨rfl, hb⟩)
        | (go_at_call 29; refine (within_any _ _ _ _).mono ?_; rintro r w2 ⟨rfl, rfl⟩)
        | (go_at_call 12; refine (fail_any (HP.out _ hb) 2).mono ?_; rintro r w2 ⟨⟨rv, rfl⟩, hg2, hp2⟩))
      go_ret
      refine ⟨by rw [e3]; rfl, grownBy_trans (HG.out _ hb) hg2, ?_⟩
      rw [E1.out]
      by_cases hf : fe = 0
      · simp only [hf, if_true] at hp2 ⊢; exact hp2
      · simp only [hf, if_false] at hp2 ⊢; exact hp2
end Go.Proofs.YtfjfbiocjloilaaDoor
