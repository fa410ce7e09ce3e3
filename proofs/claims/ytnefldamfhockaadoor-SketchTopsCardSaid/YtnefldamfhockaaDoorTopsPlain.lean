/-
  Plain facts for 16.1: what maps of counts read as, the order of pairs, and that a sorted list of them is the only one. No program in sight.
-/
import Derived.Test.YtnefldamfhockaaDoorBase
import Derived.Maps.Ext
namespace Go.Proofs.YtnefldamfhockaaDoor
open Go.RowKit

def kl (x : Int) : Lit := .int .i64 x
theorem kl_key (x : Int) : WideAt.IsKeyLit (kl x) := trivial
theorem kl_inj {x y : Int} : kl x = kl y ↔ x = y := by simp [kl]
/-- f but v at x. -/
def updI (f : Int → Int) (x v : Int) : Int → Int := fun y => if y = x then v else f y
theorem updI_at (f : Int → Int) (x v : Int) : updI f x v x = v := if_pos rfl
theorem updI_off {f : Int → Int} {x y v : Int} (h : y ≠ x) : updI f x v y = f y := if_neg h
/-- The map D holds just f's numbers that are not 0. -/
structure Cnt (D : DataW Unit) (f : Int → Int) : Prop where
  has : ∀ x, Maps.has D (kl x) = decide (0 < f x)
  val : ∀ x, 0 < f x → ∀ z, D.atKey (kl x) z = .lit (.int .i64 (f x))
  key : ∀ k, Maps.has D k = true → ∃ x, k = kl x
  nn : ∀ x, 0 ≤ f x
theorem Cnt.congr {D : DataW Unit} {f g : Int → Int} (h : Cnt D f) (e : ∀ x, f x = g x) : Cnt D g := by
  have : f = g := funext e
  rw [← this]; exact h
theorem Cnt.ext {D D' : DataW Unit} {f : Int → Int} (c : Maps.Canon D) (c' : Maps.Canon D') (h : Cnt D f) (h' : Cnt D' f) : D = D' := by
  have hh : ∀ k, Maps.has D k = Maps.has D' k := fun k => by
    rw [Bool.eq_iff_iff]
    constructor
    · intro hk
      obtain ⟨x, rfl⟩ := h.key k hk
      rw [h'.has, ← h.has]; exact hk
    · intro hk
      obtain ⟨x, rfl⟩ := h'.key k hk
      rw [h.has, ← h'.has]; exact hk
  refine Maps.ext c c' hh (fun k z hk => ?_)
  obtain ⟨x, rfl⟩ := h.key k hk
  rw [h.has] at hk
  have hp : 0 < f x := by simpa using hk
  rw [h.val x hp, h'.val x hp]
theorem Cnt.empty : Cnt (.map []) (fun _ => 0) := ⟨fun _ => rfl, fun x h => absurd h (by simp), fun k h => (by simp [Maps.has] at h), fun _ => Int.le_refl _⟩
theorem Cnt.at0 {D : DataW Unit} {f : Int → Int} (h : Cnt D f) (x : Int) : D.atKey (kl x) (.lit (.int .i64 0)) = .lit (.int .i64 (f x)) := by
  by_cases hp : 0 < f x
  · exact h.val x hp _
  · have h0 : f x = 0 := by have := h.nn x; omega
    rw [h0]
    exact Maps.atKey_of_not_has (by rw [h.has, h0]; simp) _
theorem Cnt.put {D : DataW Unit} {f : Int → Int} (h : Cnt D f) (hm : Maps.IsMap D) (x : Int) {v : Int} (hv : 0 < v) : Cnt (D.put (kl x) (.lit (.int .i64 v))) (updI f x v) := by
  refine ⟨fun y => ?_, fun y hy z => ?_, fun k hk => ?_, fun y => ?_⟩
  · by_cases e : y = x
    · subst e; rw [Maps.has_put_same hm (kl_key _), updI_at]; simp [hv]
    · rw [Maps.has_put_other (fun h => e (kl_inj.1 h)), updI_off e, h.has]
  · by_cases e : y = x
    · subst e; rw [Maps.atKey_put_same hm (kl_key _), updI_at]
    · rw [updI_off e] at hy ⊢
      rw [Maps.atKey_put_other (fun h => e (kl_inj.1 h)), h.val y hy]
  · by_cases e : k = kl x
    · exact ⟨x, e⟩
    · rw [Maps.has_put_other e] at hk; exact h.key k hk
  · by_cases e : y = x
    · subst e; rw [updI_at]; omega
    · rw [updI_off e]; exact h.nn y
theorem Cnt.del {D : DataW Unit} {f g : Int → Int} (x : Int) (hg : ∀ y, y ≠ x → Maps.has D (kl y) = decide (0 < g y) ∧ (0 < g y → ∀ z, D.atKey (kl y) z = .lit (.int .i64 (g y))) ∧ 0 ≤ g y) (hx : g x = 0)
    (hk : ∀ k, Maps.has D k = true → ∃ x, k = kl x) (_ : f = g) : Cnt (D.del (kl x)) g := by
  refine ⟨fun y => ?_, fun y hy z => ?_, fun k hk' => ?_, fun y => ?_⟩
  · by_cases e : y = x
    · subst e; rw [Maps.has_del_same, hx]; simp
    · rw [Maps.has_del_other (fun h => e (kl_inj.1 h))]; exact (hg y e).1
  · by_cases e : y = x
    · subst e; rw [hx] at hy; omega
    · rw [Maps.atKey_del_other (fun h => e (kl_inj.1 h))]; exact (hg y e).2.1 hy z
  · by_cases e : k = kl x
    · exact ⟨x, e⟩
    · rw [Maps.has_del_other e] at hk'; exact hk k hk'
  · by_cases e : y = x
    · subst e; omega
    · exact (hg y e).2.2
/-- Put at x whatever, then struck. -/
theorem Cnt.putDel {D : DataW Unit} {f : Int → Int} (h : Cnt D f) (x v : Int) : Cnt ((D.put (kl x) (.lit (.int .i64 v))).del (kl x)) (updI f x 0) := by
  refine Cnt.del (f := updI f x 0) x (fun y e => ?_) (updI_at _ _ _) (fun k hk => ?_) rfl
  · rw [updI_off e, Maps.has_put_other (fun h => e (kl_inj.1 h)), h.has]
    exact ⟨rfl, fun hy z => by rw [Maps.atKey_put_other (fun h => e (kl_inj.1 h)), h.val y hy], h.nn y⟩
  · by_cases e : k = kl x
    · exact ⟨x, e⟩
    · rw [Maps.has_put_other e] at hk; exact h.key k hk

theorem sk' (x y : Int) : (kl y).sameKey (kl x) = decide (y = x) := by
  by_cases e : y = x
  · subst e; rw [WideAt.sameKey_self (kl_key y)]; simp
  · rw [Maps.sameKey_ne (fun h => e (kl_inj.1 h))]; simp [e]
theorem sk (x y : Int) : (kl y).sameKey (.int .i64 x) = decide (y = x) := sk' x y

/-- How many keys f counts. -/
noncomputable def szC (f : Int → Int) : Nat := by
  classical
  exact if h : ∃ D : DataW Unit, Maps.Canon D ∧ Cnt D f then Maps.size h.choose else 0
theorem szC_eq {D : DataW Unit} {f : Int → Int} (c : Maps.Canon D) (h : Cnt D f) : Maps.size D = szC f := by
  have hx : ∃ D : DataW Unit, Maps.Canon D ∧ Cnt D f := ⟨D, c, h⟩
  unfold szC
  rw [dif_pos hx, Cnt.ext c hx.choose_spec.1 h hx.choose_spec.2]

/-- How often each key stands among the first k. -/
def cntF (keys : List Int) : Nat → Int → Int
  | 0 => fun _ => 0
  | k + 1 => updI (cntF keys k) (gi keys k) (cntF keys k (gi keys k) + 1)
theorem cntF_bd (keys : List Int) : ∀ k x, 0 ≤ cntF keys k x ∧ cntF keys k x ≤ k
  | 0, x => by simp [cntF]
  | k + 1, x => by
    have h1 := cntF_bd keys k x
    have h2 := cntF_bd keys k (gi keys k)
    unfold cntF updI
    split <;> omega
def decI (v : Int) : Int := if 0 < v then v - 1 else 0
/-- 16.1's few counters. -/
noncomputable def topF (keys : List Int) (c : Int) : Nat → Int → Int
  | 0 => fun _ => 0
  | k + 1 => if 0 < topF keys c k (gi keys k) ∨ (szC (topF keys c k) : Int) < c then updI (topF keys c k) (gi keys k) (topF keys c k (gi keys k) + 1) else fun x => decI (topF keys c k x)
theorem topF_bd (keys : List Int) (c : Int) : ∀ k x, 0 ≤ topF keys c k x ∧ topF keys c k x ≤ k
  | 0, x => by simp [topF]
  | k + 1, x => by
    have h1 := topF_bd keys c k x
    have h2 := topF_bd keys c k (gi keys k)
    unfold topF
    split
    · unfold updI; split <;> omega
    · show 0 ≤ decI (topF keys c k x) ∧ decI (topF keys c k x) ≤ ((k + 1 : Nat) : Int)
      unfold decI; split <;> omega
theorem topF_more {keys : List Int} {c : Int} {k : Nat} (h : 0 < topF keys c k (gi keys k) ∨ (szC (topF keys c k) : Int) < c) : topF keys c (k + 1) = updI (topF keys c k) (gi keys k) (topF keys c k (gi keys k) + 1) := by rw [topF, if_pos h]
theorem topF_less {keys : List Int} {c : Int} {k : Nat} (h : ¬ (0 < topF keys c k (gi keys k) ∨ (szC (topF keys c k) : Int) < c)) : topF keys c (k + 1) = fun x => decI (topF keys c k x) := by rw [topF, if_neg h]

/-! ### the order of pairs -/
/-- (key, how often): the most frequent first, of like ones the least key. -/
def Bf (p q : Int × Int) : Prop := q.2 < p.2 ∨ (p.2 = q.2 ∧ p.1 < q.1)
instance (p q : Int × Int) : Decidable (Bf p q) := by unfold Bf; infer_instance
theorem Bf.irrefl (p : Int × Int) : ¬ Bf p p := by unfold Bf; omega
theorem Bf.trans {p q r : Int × Int} (h : Bf p q) (k : Bf q r) : Bf p r := by unfold Bf at *; omega
theorem Bf.total {p q : Int × Int} (h : p.1 ≠ q.1) (k : ¬ Bf p q) : Bf q p := by unfold Bf at *; omega
/-- L: the pairs that f counts and 'some' allows, in order. -/
def SortedOf (f : Int → Int) (ok : Int → Bool) (L : List (Int × Int)) : Prop :=
  L.Pairwise Bf ∧ ∀ p : Int × Int, p ∈ L ↔ (0 < f p.1 ∧ p.2 = f p.1 ∧ ok p.1 = true)
theorem eq_of_mem_bf : ∀ {l₁ l₂ : List (Int × Int)}, l₁.Pairwise Bf → l₂.Pairwise Bf → (∀ p, p ∈ l₁ ↔ p ∈ l₂) → l₁ = l₂
  | [], [], _, _, _ => rfl
  | [], b :: s, _, _, h => by have := (h b).2 (by simp); simp at this
  | a :: r, [], _, _, h => by have := (h a).1 (by simp); simp at this
  | a :: r, b :: s, h1, h2, h => by
    obtain ⟨a1, a2⟩ := List.pairwise_cons.1 h1
    obtain ⟨b1, b2⟩ := List.pairwise_cons.1 h2
    have hab : a = b := by
      rcases List.mem_cons.1 ((h a).1 (by simp)) with e | ha
      · exact e
      · rcases List.mem_cons.1 ((h b).2 (by simp)) with e | hb
        · exact e.symm
        · exact absurd ((a1 b hb).trans (b1 a ha)) (Bf.irrefl _)
    subst hab
    rw [eq_of_mem_bf a2 b2 (fun p => ⟨fun hp => by
      rcases List.mem_cons.1 ((h p).1 (by simp [hp])) with e | hp'
      · exact absurd (e ▸ a1 p hp) (Bf.irrefl _)
      · exact hp', fun hp => by
      rcases List.mem_cons.1 ((h p).2 (by simp [hp])) with e | hp'
      · exact absurd (e ▸ b1 p hp) (Bf.irrefl _)
      · exact hp'⟩)]
theorem SortedOf.ext {f : Int → Int} {ok : Int → Bool} {L L' : List (Int × Int)} (h : SortedOf f ok L) (h' : SortedOf f ok L') : L = L' :=
  eq_of_mem_bf h.1 h'.1 (fun p => by rw [h.2, h'.2])
/-- The pairs met so far, in whatever order. -/
def CollOf (f : Int → Int) (ok : Int → Bool) (L : List (Int × Int)) : Prop :=
  L.Pairwise (fun p q => p.1 ≠ q.1) ∧ ∀ p : Int × Int, p ∈ L ↔ (0 < f p.1 ∧ p.2 = f p.1 ∧ ok p.1 = true)
theorem SortedOf.coll {f : Int → Int} {ok : Int → Bool} {L : List (Int × Int)} (h : SortedOf f ok L) : CollOf f ok L := by
  refine ⟨List.Pairwise.imp_of_mem (fun {a b} ha hb hab e => ?_) h.1, h.2⟩
  have h1 := ((h.2 a).1 ha).2.1
  have h2 := ((h.2 b).1 hb).2.1
  rw [e] at h1
  unfold Bf at hab
  omega
theorem CollOf.nil {f : Int → Int} {ok : Int → Bool} (h : ∀ x, 0 < f x → ok x = false) : CollOf f ok [] := ⟨List.Pairwise.nil, fun p => ⟨fun h => by simp at h, fun ⟨h1, _, h3⟩ => by rw [h _ h1] at h3; cases h3⟩⟩
theorem SortedOf.nil {f : Int → Int} {ok : Int → Bool} (h : ∀ x, 0 < f x → ok x = false) : SortedOf f ok [] := ⟨List.Pairwise.nil, (CollOf.nil h).2⟩
/-- One more. -/
theorem coll_step {f : Int → Int} {ok ok' : Int → Bool} {L : List (Int × Int)} {x : Int} (hx : 0 < f x) (ho' : ∀ y, ok' y = (ok y || y == x)) (hm : ∀ p : Int × Int, p ∈ L ↔ (0 < f p.1 ∧ p.2 = f p.1 ∧ ok p.1 = true)) (p : Int × Int) :
    (p ∈ L ∨ p = (x, f x)) ↔ (0 < f p.1 ∧ p.2 = f p.1 ∧ ok' p.1 = true) := by
  rw [hm, ho']
  constructor
  · rintro (⟨h1, h2, h3⟩ | rfl)
    · exact ⟨h1, h2, by simp [h3]⟩
    · exact ⟨hx, rfl, by simp⟩
  · rintro ⟨h1, h2, h3⟩
    by_cases e : p.1 = x
    · right; exact Prod.ext e (by rw [h2, e])
    · left; refine ⟨h1, h2, ?_⟩
      simpa [e] using h3
theorem CollOf.add {f : Int → Int} {ok ok' : Int → Bool} {L : List (Int × Int)} (h : CollOf f ok L) {x : Int} (hx : 0 < f x) (ho : ok x = false) (ho' : ∀ y, ok' y = (ok y || y == x)) : CollOf f ok' (L ++ [(x, f x)]) := by
  refine ⟨?_, fun p => by rw [List.mem_append, List.mem_singleton]; exact coll_step hx ho' h.2 p⟩
  rw [List.pairwise_append]
  refine ⟨h.1, List.pairwise_singleton _ _, fun a ha b hb => ?_⟩
  rw [List.mem_singleton] at hb
  subst hb
  intro e
  have := ((h.2 a).1 ha).2.2
  rw [e, ho] at this
  cases this
/-- Put in at its place. -/
theorem SortedOf.ins {f : Int → Int} {ok ok' : Int → Bool} {L : List (Int × Int)} (h : SortedOf f ok L) {x : Int} (hx : 0 < f x) (ho : ok x = false) (ho' : ∀ y, ok' y = (ok y || y == x)) {a : Nat} (ha : a ≤ L.length)
    (h1 : ∀ p, a ≠ 0 → L[a - 1]? = some p → ¬ Bf (x, f x) p) (h2 : ∀ i p, a ≤ i → L[i]? = some p → Bf (x, f x) p) : SortedOf f ok' (L.take a ++ (x, f x) :: L.drop a) := by
  have hne : ∀ p ∈ L, p.1 ≠ x := fun p hp e => by
    have := ((h.2 p).1 hp).2.2
    rw [e, ho] at this
    cases this
  refine ⟨?_, fun p => ?_⟩
  · rw [List.pairwise_append, List.pairwise_cons]
    have hsplit := h.1
    rw [← List.take_append_drop a L, List.pairwise_append] at hsplit
    have hlow : ∀ p ∈ L.take a, Bf p (x, f x) := by
      intro p hp
      obtain ⟨i, hi⟩ := List.getElem?_of_mem hp
      rw [List.getElem?_take] at hi
      split at hi
      · rename_i hia
        have hla : a - 1 < L.length := by omega
        have hlast : Bf L[a - 1] (x, f x) := Bf.total (p := (x, f x)) (fun e => hne _ (List.getElem_mem hla) e.symm) (h1 _ (by omega) (by simp [hla]))
        rcases Nat.lt_or_ge i (a - 1) with h3 | h3
        · obtain ⟨hil, hie⟩ := List.getElem?_eq_some_iff.1 hi
          have := List.pairwise_iff_getElem.1 h.1 i (a - 1) hil hla h3
          rw [hie] at this
          exact this.trans hlast
        · have : i = a - 1 := by omega
          subst this
          rw [List.getElem?_eq_getElem hla] at hi
          rw [← Option.some.inj hi]; exact hlast
      · cases hi
    have hhigh : ∀ p ∈ L.drop a, Bf (x, f x) p := by
      intro p hp
      obtain ⟨i, hi⟩ := List.getElem?_of_mem hp
      rw [List.getElem?_drop] at hi
      exact h2 (a + i) p (by omega) hi
    refine ⟨hsplit.1, ⟨hhigh, hsplit.2.1⟩, fun p hp q hq => ?_⟩
    rcases List.mem_cons.1 hq with rfl | hq
    · exact hlow p hp
    · exact (hlow p hp).trans (hhigh q hq)
  · rw [← coll_step hx ho' h.2 p, List.mem_append, List.mem_cons, ← List.take_append_drop a L, List.mem_append, List.take_append_drop]
    constructor
    · rintro (h | h | h)
      · exact .inl (.inl h)
      · exact .inr h
      · exact .inl (.inr h)
    · rintro ((h | h) | h)
      · exact .inl h
      · exact .inr (.inr h)
      · exact .inr (.inl h)
theorem SortedOf.perm {f : Int → Int} {ok : Int → Bool} {L L' : List (Int × Int)} (h : CollOf f ok L) (hp : L'.Perm L) (hs : L'.Pairwise (fun p q => ¬ Bf q p)) : SortedOf f ok L' := by
  refine ⟨?_, fun p => by rw [hp.mem_iff]; exact h.2 p⟩
  have hne : L'.Pairwise (fun p q => p.1 ≠ q.1) := (hp.pairwise_iff (fun {_ _} hne => Ne.symm hne)).2 h.1
  exact (hs.and hne).imp (fun {a b} ⟨h1, h2⟩ => Bf.total (fun e => h2 e.symm) h1)
end Go.Proofs.YtnefldamfhockaaDoor
