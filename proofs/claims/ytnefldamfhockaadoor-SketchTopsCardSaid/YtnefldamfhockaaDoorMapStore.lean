/- MINE, no program in sight: 'm[k] = v' at a key that is there, in the round of a range over that very map. -/
import Derived.Maps.RangeWalk
namespace Go
open Go.ChangeMaps Go.MapKept Go.WideShapes
open Go.WideElems (Fit rd rg pl rd_key rd_val rg_of other_key)
open Go.Maps (Keyed)

section
variable {H : Type} {P : Program} {k : TypeId} {R : Value → Option (DataW H × List MemPlace)} {w : World} {b r n : Nat} {D : DataW H} {left : Lit → Bool} {cnt : Nat}

/-- A store at a key that is there: who stands among the entries, and with which stamp. -/
theorem run_store_there {t e : TypeId} {es : Array MapEntry} {clock : Nat} (K : Keyed P k) (ht : P.underlying t = some (.map k e)) (hb : w.heap[b]? = some (.map es clock)) (F : Fit P k R es clock) {key val : Value} {kl : Lit}
    (hkey : keyOf P k key = some kl) {e0 : MapEntry} (he0 : e0 ∈ es.toList) (hk0 : e0.key = key) :
    ∃ es', (Instr.mapUpdate t (.map (some b)) key val).run P w = .ok () (setBlock w b (.map es' clock)) ∧ es'.size = es.size ∧
      ∀ i : Nat, (es'[i]? = es[i]? ∧ ∀ x, es[i]? = some x → x.key ≠ key) ∨ (es[i]? = some e0 ∧ es'[i]? = some { e0 with key := key, val := val }) := by
  rcases K.find w hkey es.toList F.keys with ⟨h1, h2⟩ | ⟨j, e1, h1, h2, h3⟩
  · exact absurd hk0 (h2 e0 he0)
  · have hj : es[j]? = some e1 := by simpa using h2
    obtain ⟨i0, hi0⟩ := List.getElem?_of_mem he0
    have hij : i0 = j := by
      refine Classical.byContradiction fun hne => ?_
      exact other_key F h2 hi0 hne (by rw [hk0, h3])
    subst hij
    obtain rfl : e1 = e0 := Option.some.inj (h2.symm.trans hi0)
    refine ⟨es.modify i0 (fun e' => { e' with key := key, val := val }), ?_, by simp, fun i => ?_⟩
    · simp [Instr.mapUpdate, run_underlying ht, MapKept.run_getObj_map hb, K.check w false hkey, h1, hj, h3, K.stays w hkey, MapKept.run_setObj_map _ hb, Result.andThen, setBlock]
    · by_cases e : i0 = i
      · subst e
        right
        exact ⟨hj, by rw [Array.getElem?_modify]; simp [hj]⟩
      · left
        refine ⟨by rw [Array.getElem?_modify]; simp [e], fun x hx => ?_⟩
        rw [← h3]
        exact other_key F h2 (by simpa using hx) (fun e2 => e e2.symm)

/-- 'm[k] = v' in the round, k a key that is there. -/
theorem World.ranges.store {t e : TypeId} (h : w.ranges P k R b r n D left cnt) (K : Keyed P k) (ht : P.underlying t = some (.map k e)) (hn : n < maxLen) {key val : Value} {kl : Lit} {d : DataW H} {ps : List MemPlace}
    (hkey : keyOf P k key = some kl) (hv : R val = some (d, ps)) (hhas : Maps.has D kl = true) :
    ∃ w', (Instr.mapUpdate t (.map (some b)) key val).run P w = .ok () w' ∧ w'.ranges P k R b r n (D.put kl d) left cnt ∧ w.mapTurned w' b := by
  have hne := h.ne
  obtain ⟨es, clock, since, seen, c0, hb, F, hs, rfl, hr, hold, rfl, hl1, hl2, hsc, hsk⟩ := h
  obtain ⟨p, hp, hpk⟩ := List.any_eq_true.1 hhas
  obtain ⟨e0, he0, rfl⟩ := List.mem_map.1 (mem_sorted.1 hp)
  have hkk := WideAt.sameKey_eq hpk
  obtain ⟨y0, hy0⟩ := F.reads e0 he0
  have hk0 : e0.key = key := by
    have m1 := rd_key hy0
    rw [rg_of hy0] at hkk
    rw [hkk] at m1
    exact K.inj m1 hkey
  obtain ⟨es', hrun, hsz, hat⟩ := run_store_there (val := val) K ht hb F hkey he0 hk0
  obtain ⟨es2, clock2, hrun2, F', hput, _, _, _⟩ := Maps.fit_store (R' := R) K ht hb F (Nat.lt_of_le_of_lt hs hn) (fun _ _ _ _ hz => hz) hkey hv
  have hsame : setBlock w b (.map es' clock) = setBlock w b (.map es2 clock2) := by
    have := hrun.symm.trans hrun2
    injection this
  have hob : (Obj.map es' clock) = .map es2 clock2 := by
    have h1 := heap_setBlock_same hb (.map es' clock)
    rw [hsame, heap_setBlock_same hb (.map es2 clock2)] at h1
    exact (Option.some.inj h1).symm
  injection hob with h1 h2
  subst h1; subst h2
  -- each new entry stands where an old one stood, with its stamp and a key that reads alike
  have who : ∀ (i : Nat) (x' : MapEntry), es'[i]? = some x' → ∃ x, es[i]? = some x ∧ x.born = x'.born ∧ (rg P k R x).1 = (rg P k R x').1 := by
    intro i x' hx'
    rcases hat i with ⟨h1, _⟩ | ⟨h1, h2⟩
    · exact ⟨x', by rw [← h1]; exact hx', rfl, rfl⟩
    · rw [h2] at hx'
      obtain rfl := Option.some.inj hx'
      refine ⟨e0, h1, rfl, ?_⟩
      rw [hkk, rg_of (Go.WideElems.rd_mk hkey hv)]
  have back : ∀ (i : Nat) (x : MapEntry), es[i]? = some x → ∃ x', es'[i]? = some x' ∧ x.born = x'.born ∧ (rg P k R x).1 = (rg P k R x').1 := by
    intro i x hx
    have hlt : i < es'.size := by rw [hsz]; exact (Array.getElem?_eq_some_iff.1 hx).1
    obtain ⟨x2, g1, g2, g3⟩ := who i es'[i] (by simp [hlt])
    obtain rfl : x = x2 := Option.some.inj (hx.symm.trans g1)
    exact ⟨es'[i], by simp [hlt], g2, g3⟩
  have mem_of : ∀ {a : Array MapEntry} {x : MapEntry}, x ∈ a.toList → ∃ i : Nat, a[i]? = some x := fun {a x} hx => by
    obtain ⟨i, hi⟩ := List.getElem?_of_mem hx
    exact ⟨i, by simpa using hi⟩
  refine ⟨_, hrun, ⟨es', clock, since, seen, c0, heap_setBlock_same hb _, F', by omega, by rw [DataW.put_eq, hput], (heap_setBlock_other hb _ hne).trans hr, fun x' hx' => ?_, ?_, fun x' hx' => ?_, fun x0 hx0 => ?_, hsc, hsk⟩, ⟨es, clock, es', clock, hb, rfl⟩⟩
  · obtain ⟨i, hi⟩ := mem_of hx'
    obtain ⟨x, g1, g2, _⟩ := who i x' hi
    rw [← g2]
    exact hold x (List.mem_of_getElem? (i := i) (by simpa using g1))
  · have e1 : ∀ a : Array MapEntry, (leftOf a seen).size = ((a.toList.map (·.born)).filter fun c => !seen.contains c).length := fun a => by
      unfold leftOf
      rw [← Array.length_toList, Array.toList_filter, List.filter_map, List.length_map]
      rfl
    have e2 : es'.toList.map (·.born) = es.toList.map (·.born) := by
      apply List.ext_getElem?
      intro i
      rw [List.getElem?_map, List.getElem?_map, Array.getElem?_toList, Array.getElem?_toList]
      cases hx : es[i]? with
      | none =>
        have : es'[i]? = none := by rw [Array.getElem?_eq_none_iff] at hx ⊢; omega
        rw [this]
      | some x =>
        obtain ⟨x', g1, g2, _⟩ := back i x hx
        rw [g1]; simp [g2]
    rw [e1, e1, e2]
  · obtain ⟨i, hi⟩ := mem_of hx'
    obtain ⟨x, g1, g2, g3⟩ := who i x' hi
    rw [← g2, ← g3]
    exact hl1 x (List.mem_of_getElem? (i := i) (by simpa using g1))
  · obtain ⟨x, hx, rfl⟩ := hl2 x0 hx0
    obtain ⟨i, hi⟩ := mem_of hx
    obtain ⟨x', g1, _, g3⟩ := back i x hi
    exact ⟨x', List.mem_of_getElem? (i := i) (by simpa using g1), g3.symm⟩

/-- .. at the operation, for the walk. -/
theorem wpList_mapUpdate_ranges {ops : Array Oper} {rest : List Oper} {o : Oper} {a : Act} {Q : Exit → Act → World → Prop}
    (hg : o.guard = none) (m x v : Operand) (t : TypeId) (hop : o.op = Op.mapUpdate t m x v) (e : TypeId) (K : Keyed P k) (ht : P.underlying t = some (.map k e))
    (hm : a.eval m = .map (some b)) (h : w.ranges P k R b r n D left cnt) (hn : n < maxLen) (key val : Value) (kl : Lit) (hx : a.eval x = key) (hv : a.eval v = val) (hkey : keyOf P k key = some kl)
    (d : DataW H) (ps : List MemPlace) (hval : R val = some (d, ps)) (hhas : Maps.has D kl = true)
    (hK : ∀ w', w'.ranges P k R b r n (D.put kl d) left cnt → w.mapTurned w' b → wpList P ops Q rest (a.put o.dst undef) w') :
    wpList P ops Q (o :: rest) a w := by
  refine wpList_plain hg fun K' hK' => ?_
  obtain ⟨w', hrun, r1, r2⟩ := h.store K ht hn hkey hval hhas
  unfold Oper.wp
  simp [execOp, hop, hm, hx, hv, hrun, Result.andThen]
  exact hK' _ _ (hK w' r1 r2)
end
end Go
