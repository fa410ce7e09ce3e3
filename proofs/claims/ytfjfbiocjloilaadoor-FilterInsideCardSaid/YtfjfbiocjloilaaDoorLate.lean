/- MINE, no program in sight: a drawn region whose last operations are stores into cells that it loads: what the loads
   lean on (S) is asked only while none of those stores (ts) has come up; a load that every one of them waits for may be taken first. -/
import Derived.OrdersHeld
import Derived.Deep.RegionHeld
namespace Go

section
variable {P : Program} {ops : Array Oper} {Q : Exit → Act → World → Prop} {md : Region.Mode} {S : World → Prop} {ts : List Nat}

/-- What has come up has all that it waits for up too. -/
def Region.Closed (md : Region.Mode) (ops : Array Oper) (listed : Array Bool) : Prop :=
  ∀ j oj, ops[j]? = some oj → listed.getD j false = true → ∀ e ∈ oj.after, Region.binds md e = true → listed.getD e.on false = true

def Region.closedB (md : Region.Mode) (ops : Array Oper) (listed : Array Bool) : Bool :=
  (List.range ops.size).all fun j => match ops[j]? with
    | some oj => !listed.getD j false || oj.after.all fun e => !Region.binds md e || listed.getD e.on false
    | none => true

theorem Region.closedB_spec {listed : Array Bool} (h : Region.closedB md ops listed = true) : Region.Closed md ops listed := by
  intro j oj hj hl e he hb
  have hlt : j < ops.size := (Array.getElem?_eq_some_iff.1 hj).1
  have h1 := List.all_eq_true.1 h j (List.mem_range.2 hlt)
  simp only [hj, hl, Bool.not_true, Bool.false_or] at h1
  have h2 := Array.all_eq_true'.1 h1 e he
  simpa [hb] using h2

theorem getD_set_late {listed : Array Bool} {i j : Nat} (d : Bool) (h : i ≠ j) : (listed.setIfInBounds i true).getD j d = listed.getD j d := by
  simp [Array.getD_eq_getD_getElem?, Array.getElem?_setIfInBounds_ne h]

theorem getD_set_up {listed : Array Bool} {i j : Nat} (h : listed.getD j false = true) : (listed.setIfInBounds i true).getD j false = true := by
  by_cases hij : i = j
  · subst hij
    have : i < listed.size := by
      rcases Nat.lt_or_ge i listed.size with h' | h'
      · exact h'
      · simp [Array.getD_eq_getD_getElem?, Array.getElem?_eq_none h'] at h
    simp [Array.getD_eq_getD_getElem?, this]
  · rw [getD_set_late false hij]; exact h

theorem Region.Closed.set {listed : Array Bool} {i : Nat} (h : Region.Closed md ops listed) (hi : i ∈ Region.ready md ops listed) :
    Region.Closed md ops (listed.setIfInBounds i true) := by
  intro j oj hj hl e he hb
  by_cases hij : i = j
  · subst hij
    obtain ⟨_, oi, hoi, hall⟩ := mem_ready.1 hi
    have : oj = oi := Option.some.inj (hj.symm.trans hoi)
    subst this
    exact getD_set_up (hall e he hb)
  · rw [getD_set_late false hij] at hl
    exact getD_set_up (h j oj hj hl e he hb)

/-- The operations that wait for number i, straight or by others. -/
def Region.ups (md : Region.Mode) (ops : Array Oper) (i : Nat) : List Nat :=
  (List.range ops.size).foldl (fun m j => match ops[j]? with
    | some oj => if oj.after.any fun e => Region.binds md e && m.contains e.on then j :: m else m
    | none => m) [i]

theorem Region.ups_low {listed : Array Bool} {i : Nat} (hc : Region.Closed md ops listed) (hi : listed.getD i false = false) :
    ∀ j ∈ Region.ups md ops i, listed.getD j false = false := by
  have key : ∀ (l : List Nat) (m : List Nat), (∀ j ∈ m, listed.getD j false = false) →
      ∀ j ∈ l.foldl (fun m j => match ops[j]? with
        | some oj => if oj.after.any fun e => Region.binds md e && m.contains e.on then j :: m else m
        | none => m) m, listed.getD j false = false := by
    intro l
    induction l with
    | nil => intro m hm; exact hm
    | cons k l ih =>
      intro m hm
      rw [List.foldl_cons]
      apply ih
      cases hk : ops[k]? with
      | none => exact hm
      | some ok =>
        simp only
        split
        · rename_i hany
          obtain ⟨e, he, hb⟩ := Array.any_eq_true'.1 hany
          simp only [Bool.and_eq_true, List.contains_iff_mem] at hb
          intro j hj
          rcases List.mem_cons.1 hj with rfl | hj
          · cases hl : listed.getD j false with
            | false => rfl
            | true =>
              have := hc j ok hk hl e he hb.1
              rw [hm _ hb.2] at this
              cases this
          · exact hm j hj
        · exact hm
  exact key _ _ (by intro j hj; rw [List.mem_singleton] at hj; subst hj; exact hi)

/-- Whatever order is picked from here on, and behind every operation S holds as long as none of ts has come up. -/
def wpAnyT (P : Program) (md : Region.Mode) (ops : Array Oper) (Q : Exit → Act → World → Prop) (S : World → Prop) (ts : List Nat) : Nat → Array Bool → Act → World → Prop
  | 0, listed, a, w => Region.ready md ops listed = [] ∧ Q .normal a w
  | fuel + 1, listed, a, w =>
    (Region.ready md ops listed = [] → Q .normal a w) ∧
    ∀ i ∈ Region.ready md ops listed, wpOp P ops Q i (fun a' w' => ((∀ t ∈ ts, (listed.setIfInBounds i true).getD t false = false) → S w') ∧ wpAnyT P md ops Q S ts fuel (listed.setIfInBounds i true) a' w') a w

theorem wpAny_of_late : ∀ (fuel : Nat) (listed : Array Bool) (a : Act) (w : World), wpAnyT P md ops Q S ts fuel listed a w → wpAny P md ops Q fuel listed a w
  | 0, _, _, _, h => h
  | fuel + 1, _, _, _, h => ⟨h.1, fun i hi => wpOp_mono (fun a' w' h' => wpAny_of_late fuel _ a' w' h'.2) (h.2 i hi)⟩

theorem wpAnyT_first {i : Nat} {oi : Oper} {v : Value} (hi : ops[i]? = some oi) (hsel : ∀ (j : Nat) (o : Oper) cs b, ops[j]? = some o → o.op ≠ .select cs b)
    (hQ : ∀ c a w, Q (.panic c) (a.put oi.dst v) w → Q (.panic c) a w) (hts : ∀ t ∈ ts, t ∈ Region.ups md ops i) (hit : i ∉ ts) :
    ∀ (fuel : Nat) (listed : Array Bool) (a : Act) (w : World), Region.Closed md ops listed →
      (∀ j oj, ops[j]? = some oj → j ≠ i → listed.getD j true = false → (∀ e ∈ oj.after, Region.binds md e = true → e.on ≠ i) → oi.apart ops oj = true) →
      i ∈ Region.ready md ops listed → YieldsIf P ops S oi v a → ((∀ t ∈ ts, listed.getD t false = false) → S w) →
      wpAnyT P md ops Q S ts fuel (listed.setIfInBounds i true) (a.put oi.dst v) w → wpAnyT P md ops Q S ts (fuel + 1) listed a w := by
  have pend : ∀ {listed : Array Bool}, i ∈ Region.ready md ops listed → listed.getD i false = false := fun {listed} hr => by
    have h0 := (mem_ready.1 hr).1
    rcases Nat.lt_or_ge i listed.size with h' | h'
    · simp [h'] at h0 ⊢; exact h0
    · simp [Array.getElem?_eq_none h']
  intro fuel
  induction fuel with
  | zero =>
    intro listed a w hc _ hr hy hS H
    have hlow := fun t ht => Region.ups_low hc (pend hr) t (hts t ht)
    refine ⟨fun h => (by rw [h] at hr; cases hr), fun j hj => ?_⟩
    by_cases hji : j = i
    · subst hji; exact hy.wpOp hi (hS hlow) ⟨fun _ => hS hlow, H⟩
    · have := ready_mono hj hji
      rw [H.1] at this
      cases this
  | succ fuel ih =>
    intro listed a w hc hfree hr hy hS H
    have hlow := fun t ht => Region.ups_low hc (pend hr) t (hts t ht)
    refine ⟨fun h => (by rw [h] at hr; cases hr), fun j hj => ?_⟩
    by_cases hji : j = i
    · subst hji; exact hy.wpOp hi (hS hlow) ⟨fun _ => hS hlow, H⟩
    · have h1 := H.2 j (ready_mono hj hji)
      obtain ⟨hjun, oj, hoj, hall⟩ := mem_ready.1 hj
      have hnot : ∀ e ∈ oj.after, Region.binds md e = true → e.on ≠ i := fun e he hb heq => by
        have h1 := hall e he hb
        rw [heq, pend hr] at h1
        cases h1
      have h2 := wpOp_putIf hoj (hfree j oj hoj hji hjun hnot) (fun cs b => hsel i oi cs b hi) (fun cs b => hsel j oj cs b hoj) hQ hy h1
      have hfree' : ∀ k ok, ops[k]? = some ok → k ≠ i → (listed.setIfInBounds j true).getD k true = false →
          (∀ e ∈ ok.after, Region.binds md e = true → e.on ≠ i) → oi.apart ops ok = true := fun k ok hk hki hun hno => by
        refine hfree k ok hk hki ?_ hno
        by_cases hjk : j = k
        · subst hjk; exact hjun
        · rw [getD_set_late true hjk] at hun; exact hun
      have back : ∀ {w' : World}, ((∀ t ∈ ts, ((listed.setIfInBounds i true).setIfInBounds j true).getD t false = false) → S w') →
          (∀ t ∈ ts, (listed.setIfInBounds j true).getD t false = false) → S w' := fun {w'} h hl => h fun t ht => by
        have hti : i ≠ t := fun e => hit (e ▸ ht)
        rw [Array.setIfInBounds_comm _ _ (Ne.symm hji), getD_set_late false hti]
        exact hl t ht
      refine wpOp_mono (fun a' w' h3 => ⟨back h3.2.1, ih (listed.setIfInBounds j true) a' w' (hc.set hj) hfree' (ready_mono hr (Ne.symm hji)) h3.1 (back h3.2.1) ?_⟩) h2
      rw [Array.setIfInBounds_comm _ _ hji]
      exact h3.2.2

/-- .. an operation that yields its value in whatever world needs no S. -/
theorem wpAnyT_firstP {i : Nat} {oi : Oper} {v : Value} (hi : ops[i]? = some oi) (hsel : ∀ (j : Nat) (o : Oper) cs b, ops[j]? = some o → o.op ≠ .select cs b)
    (hQ : ∀ c a w, Q (.panic c) (a.put oi.dst v) w → Q (.panic c) a w) (hit : i ∉ ts) :
    ∀ (fuel : Nat) (listed : Array Bool) (a : Act) (w : World), Region.Closed md ops listed →
      (∀ j oj, ops[j]? = some oj → j ≠ i → listed.getD j true = false → (∀ e ∈ oj.after, Region.binds md e = true → e.on ≠ i) → oi.apart ops oj = true) →
      i ∈ Region.ready md ops listed → YieldsIf P ops (fun _ => True) oi v a → ((∀ t ∈ ts, listed.getD t false = false) → S w) →
      wpAnyT P md ops Q S ts fuel (listed.setIfInBounds i true) (a.put oi.dst v) w → wpAnyT P md ops Q S ts (fuel + 1) listed a w := by
  have pend : ∀ {listed : Array Bool}, i ∈ Region.ready md ops listed → listed.getD i false = false := fun {listed} hr => by
    have h0 := (mem_ready.1 hr).1
    rcases Nat.lt_or_ge i listed.size with h' | h'
    · simp [h'] at h0 ⊢; exact h0
    · simp [Array.getElem?_eq_none h']
  intro fuel
  induction fuel with
  | zero =>
    intro listed a w hc _ hr hy hS H
    have low : (∀ t ∈ ts, (listed.setIfInBounds i true).getD t false = false) → S w := fun h => hS fun t ht => by
      have hti : i ≠ t := fun e => hit (e ▸ ht)
      have h1 := h t ht
      rwa [getD_set_late false hti] at h1
    refine ⟨fun h => (by rw [h] at hr; cases hr), fun j hj => ?_⟩
    by_cases hji : j = i
    · subst hji; exact hy.wpOp hi trivial ⟨low, H⟩
    · have := ready_mono hj hji
      rw [H.1] at this
      cases this
  | succ fuel ih =>
    intro listed a w hc hfree hr hy hS H
    have low : (∀ t ∈ ts, (listed.setIfInBounds i true).getD t false = false) → S w := fun h => hS fun t ht => by
      have hti : i ≠ t := fun e => hit (e ▸ ht)
      have h1 := h t ht
      rwa [getD_set_late false hti] at h1
    refine ⟨fun h => (by rw [h] at hr; cases hr), fun j hj => ?_⟩
    by_cases hji : j = i
    · subst hji; exact hy.wpOp hi trivial ⟨low, H⟩
    · have h1 := H.2 j (ready_mono hj hji)
      obtain ⟨hjun, oj, hoj, hall⟩ := mem_ready.1 hj
      have hnot : ∀ e ∈ oj.after, Region.binds md e = true → e.on ≠ i := fun e he hb heq => by
        have h1 := hall e he hb
        rw [heq, pend hr] at h1
        cases h1
      have h2 := wpOp_putIf hoj (hfree j oj hoj hji hjun hnot) (fun cs b => hsel i oi cs b hi) (fun cs b => hsel j oj cs b hoj) hQ hy h1
      have hfree' : ∀ k ok, ops[k]? = some ok → k ≠ i → (listed.setIfInBounds j true).getD k true = false →
          (∀ e ∈ ok.after, Region.binds md e = true → e.on ≠ i) → oi.apart ops ok = true := fun k ok hk hki hun hno => by
        refine hfree k ok hk hki ?_ hno
        by_cases hjk : j = k
        · subst hjk; exact hjun
        · rw [getD_set_late true hjk] at hun; exact hun
      have back : ∀ {w' : World}, ((∀ t ∈ ts, ((listed.setIfInBounds i true).setIfInBounds j true).getD t false = false) → S w') →
          (∀ t ∈ ts, (listed.setIfInBounds j true).getD t false = false) → S w' := fun {w'} h hl => h fun t ht => by
        have hti : i ≠ t := fun e => hit (e ▸ ht)
        rw [Array.setIfInBounds_comm _ _ (Ne.symm hji), getD_set_late false hti]
        exact hl t ht
      refine wpOp_mono (fun a' w' h3 => ⟨back h3.2.1, ih (listed.setIfInBounds j true) a' w' (hc.set hj) hfree' (ready_mono hr (Ne.symm hji)) h3.1 (back h3.2.1) ?_⟩) h2
      rw [Array.setIfInBounds_comm _ _ hji]
      exact h3.2.2

/-- All the side conditions as one Bool. -/
def Region.lateB (md : Region.Mode) (ops : Array Oper) (ts : List Nat) (listed : Array Bool) (i : Nat) : Bool :=
  Region.noSelect ops && Region.free md ops listed i && (Region.ready md ops listed).contains i && Region.closedB md ops listed &&
    (ts.all fun t => (Region.ups md ops i).contains t) && !ts.contains i

theorem wpAnyT_take {i : Nat} {oi : Oper} {v : Value} {fuel : Nat} {listed : Array Bool} {a : Act} {w : World} (hi : ops[i]? = some oi)
    (hB : Region.lateB md ops ts listed i = true)
    (hQ : ∀ c a w, Q (.panic c) (a.put oi.dst v) w → Q (.panic c) a w) (hy : YieldsIf P ops S oi v a) (hS : S w)
    (h : wpAnyT P md ops Q S ts fuel (listed.setIfInBounds i true) (a.put oi.dst v) w) : wpAnyT P md ops Q S ts (fuel + 1) listed a w := by
  simp only [Region.lateB, Bool.and_eq_true, List.all_eq_true, Bool.not_eq_true', List.contains_eq_mem, decide_eq_true_eq, decide_eq_false_iff_not] at hB
  obtain ⟨⟨⟨⟨⟨h1, h2⟩, h3⟩, h4⟩, h5⟩, h6⟩ := hB
  exact wpAnyT_first hi (Region.noSelect_spec h1) hQ h5 h6 fuel listed a w (Region.closedB_spec h4) (Region.free_spec hi h2) h3 hy (fun _ => hS) h

def Region.lateP (md : Region.Mode) (ops : Array Oper) (ts : List Nat) (listed : Array Bool) (i : Nat) : Bool :=
  Region.noSelect ops && Region.free md ops listed i && (Region.ready md ops listed).contains i && Region.closedB md ops listed && !ts.contains i

theorem wpAnyT_takeP {i : Nat} {oi : Oper} {v : Value} {fuel : Nat} {listed : Array Bool} {a : Act} {w : World} (hi : ops[i]? = some oi)
    (hB : Region.lateP md ops ts listed i = true)
    (hQ : ∀ c a w, Q (.panic c) (a.put oi.dst v) w → Q (.panic c) a w) (hy : YieldsIf P ops (fun _ => True) oi v a) (hS : S w)
    (h : wpAnyT P md ops Q S ts fuel (listed.setIfInBounds i true) (a.put oi.dst v) w) : wpAnyT P md ops Q S ts (fuel + 1) listed a w := by
  simp only [Region.lateP, Bool.and_eq_true, Bool.not_eq_true', List.contains_eq_mem, decide_eq_true_eq, decide_eq_false_iff_not] at hB
  obtain ⟨⟨⟨⟨h1, h2⟩, h3⟩, h4⟩, h6⟩ := hB
  exact wpAnyT_firstP hi (Region.noSelect_spec h1) hQ h6 fuel listed a w (Region.closedB_spec h4) (Region.free_spec hi h2) h3 hy (fun _ => hS) h

/-- .. with the slot that it writes named: so that what follows is laid out. -/
theorem wpAnyT_takeD {i d : Nat} {oi : Oper} {v : Value} {fuel : Nat} {listed : Array Bool} {a : Act} {w : World} (hi : ops[i]? = some oi) (hd : oi.dst = some d)
    (hB : Region.lateB md ops ts listed i = true)
    (hQ : ∀ c a w, Q (.panic c) (a.put oi.dst v) w → Q (.panic c) a w) (hy : YieldsIf P ops S oi v a) (hS : S w)
    (h : wpAnyT P md ops Q S ts fuel (listed.setIfInBounds i true) { a with tmps := a.tmps.setIfInBounds d v } w) : wpAnyT P md ops Q S ts (fuel + 1) listed a w :=
  wpAnyT_take hi hB hQ hy hS (by rw [hd]; exact h)
theorem wpAnyT_takePD {i d : Nat} {oi : Oper} {v : Value} {fuel : Nat} {listed : Array Bool} {a : Act} {w : World} (hi : ops[i]? = some oi) (hd : oi.dst = some d)
    (hB : Region.lateP md ops ts listed i = true)
    (hQ : ∀ c a w, Q (.panic c) (a.put oi.dst v) w → Q (.panic c) a w) (hy : YieldsIf P ops (fun _ => True) oi v a) (hS : S w)
    (h : wpAnyT P md ops Q S ts fuel (listed.setIfInBounds i true) { a with tmps := a.tmps.setIfInBounds d v } w) : wpAnyT P md ops Q S ts (fuel + 1) listed a w :=
  wpAnyT_takeP hi hB hQ hy hS (by rw [hd]; exact h)

theorem wpAnyT_all {rs : List Nat} {fuel : Nat} {listed : Array Bool} {a : Act} {w : World} (hr : Region.ready md ops listed = rs) (hne : rs ≠ [])
    (h : ∀ i ∈ rs, wpOp P ops Q i (fun a' w' => ((∀ t ∈ ts, (listed.setIfInBounds i true).getD t false = false) → S w') ∧ wpAnyT P md ops Q S ts fuel (listed.setIfInBounds i true) a' w') a w) :
    wpAnyT P md ops Q S ts (fuel + 1) listed a w :=
  ⟨fun h0 => absurd (hr ▸ h0) hne, hr ▸ h⟩

/-- None can be picked wrongly any more: from here on the plain law. -/
theorem wpAnyT_done {listed : Array Bool} {a : Act} {w : World} (hr : Region.ready md ops listed = []) (h : Q .normal a w) :
    ∀ fuel, wpAnyT P md ops Q S ts fuel listed a w
  | 0 => ⟨hr, h⟩
  | _ + 1 => ⟨fun _ => h, by rw [hr]; simp⟩

theorem wpAnyT_listed {fuel : Nat} {listed l : Array Bool} {a : Act} {w : World} (e : listed = l) (h : wpAnyT P md ops Q S ts fuel l a w) : wpAnyT P md ops Q S ts fuel listed a w := by rw [e]; exact h
theorem wpAnyT_forget {fuel : Nat} {listed : Array Bool} {a : Act} {w : World} (I : World → Prop) (h0 : I w) (h : ∀ W, I W → wpAnyT P md ops Q S ts fuel listed a W) : wpAnyT P md ops Q S ts fuel listed a w := h w h0

/-- Each of the operations 'rs' comes up next. -/
def AllReadyT (P : Program) (md : Region.Mode) (ops : Array Oper) (Q : Exit → Act → World → Prop) (S : World → Prop) (ts : List Nat) (fuel : Nat) (listed : Array Bool) (a : Act) (w : World) (rs : List Nat) : Prop :=
  ∀ i ∈ rs, wpOp P ops Q i (fun a' w' => ((∀ t ∈ ts, (listed.setIfInBounds i true).getD t false = false) → S w') ∧ wpAnyT P md ops Q S ts fuel (listed.setIfInBounds i true) a' w') a w

theorem AllReadyT.nil {fuel : Nat} {listed : Array Bool} {a : Act} {w : World} : AllReadyT P md ops Q S ts fuel listed a w [] := fun _ h => by cases h

/-- An operation while none of ts has come up: S is shown behind it. -/
theorem AllReadyT.cons {fuel : Nat} {listed : Array Bool} {a : Act} {w : World} {i : Nat} {o : Oper} {rs : List Nat} (ho : ops[i]? = some o)
    (h : ∀ K' : Act → World → Prop, Shut (∀ a w, S w → (S w → wpAnyT P md ops Q S ts fuel (listed.setIfInBounds i true) a w) → K' a w) → if Region.wanted o (yielded ops a.tmps) = true then Oper.wp P o a w K' Q else K' (a.put o.dst undef) w)
    (hs : AllReadyT P md ops Q S ts fuel listed a w rs) : AllReadyT P md ops Q S ts fuel listed a w (i :: rs) := fun j hj => by
  rcases List.mem_cons.1 hj with rfl | hj
  · exact wpOp_step ho (fun K' hK => h K' (fun a w hS hW => hK a w ⟨fun _ => hS, hW hS⟩))
  · exact hs j hj

/-- An operation of ts, or one behind them: nothing is asked any more. -/
theorem AllReadyT.last {fuel : Nat} {listed : Array Bool} {a : Act} {w : World} {i t : Nat} {o : Oper} {rs : List Nat} (ho : ops[i]? = some o) (ht : t ∈ ts)
    (hl : (listed.setIfInBounds i true).getD t false = true)
    (h : ∀ K' : Act → World → Prop, Shut (∀ a w, wpAnyT P md ops Q S ts fuel (listed.setIfInBounds i true) a w → K' a w) → if Region.wanted o (yielded ops a.tmps) = true then Oper.wp P o a w K' Q else K' (a.put o.dst undef) w)
    (hs : AllReadyT P md ops Q S ts fuel listed a w rs) : AllReadyT P md ops Q S ts fuel listed a w (i :: rs) := fun j hj => by
  rcases List.mem_cons.1 hj with rfl | hj
  · exact wpOp_step ho (fun K' hK => h K' (fun a w hW => hK a w ⟨fun hn => absurd (hn t ht) (by rw [hl]; simp), hW⟩))
  · exact hs j hj

theorem wpAnyT_ready {rs : List Nat} {fuel : Nat} {listed : Array Bool} {a : Act} {w : World} (hr : Region.ready md ops listed = rs) (hne : rs ≠ [])
    (h : AllReadyT P md ops Q S ts fuel listed a w rs) : wpAnyT P md ops Q S ts (fuel + 1) listed a w := wpAnyT_all hr hne h

/-- The beginning. -/
theorem wp_region_late (S : World → Prop) (ts : List Nat) {id : Nat} {a : Act} {w : World} (hm : P.follows .mixedOrders = true) (hS : S w.drew)
    (h : S w.drew → wpAnyT P .any ops Q S ts ops.size (Array.replicate ops.size false) a w.drew) : (Code.region id ops true).wp P Q a w :=
  wp_region_any hm (wpAny_of_late _ _ _ _ (h hS))

end
end Go
