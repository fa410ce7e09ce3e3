/-
  What is proved here: the program's 'sorted' (16.1): of a map of counts its pairs, in order.
-/
import Derived.Test.YtnefldamfhockaaDoorTopsW1
import Derived.Test.YtnefldamfhockaaDoorTopsShelf
import Derived.Shelf.SlSortCmp.NoneTotal
import Derived.StillTailTactics
namespace Go.Proofs.YtnefldamfhockaaDoor
open Go.RowKit Go.Maps Go.Shelf Go.Sort

def cmpI (x y : Int) : Int := if x < y then -1 else if y < x then 1 else 0
theorem isNaN_any (x : Int) (w : World) : Calls Tryd.prog 20 #[.int .i64 x] w fun e w' => e = .returned (.bool false) ∧ w = w' := by
  have h : (x != x) = false := by simp
  go_enter Tryd.func20, Tryd.ntmps20
  go_wp2
  go_ret
  exact ⟨rfl, rfl⟩
theorem Compare_any (x y : Int) (w : World) : Calls Tryd.prog 16 #[.int .i64 x, .int .i64 y] w fun e w' => e = .returned (.int .i64 (cmpI x y)) ∧ w = w' := by
  by_cases h1 : x < y
  · have hc : cmpI x y = -1 := by simp [cmpI, h1]
    rw [hc]
    clear hc
    go_enter Tryd.func16, Tryd.ntmps16
    go_wp2_with (go_at_call 20; refine (isNaN_any _ _).mono ?_; rintro e w' ⟨rfl, rfl⟩)
    go_ret
    exact ⟨rfl, rfl⟩
  · by_cases h2 : y < x
    · have hc : cmpI x y = 1 := by simp [cmpI, h1, h2]
      rw [hc]
      clear hc
      go_enter Tryd.func16, Tryd.ntmps16
      go_wp2_with (go_at_call 20; refine (isNaN_any _ _).mono ?_; rintro e w' ⟨rfl, rfl⟩)
      go_ret
      exact ⟨rfl, rfl⟩
    · have hc : cmpI x y = 0 := by simp [cmpI, h1, h2]
      rw [hc]
      clear hc
      go_enter Tryd.func16, Tryd.ntmps16
      go_wp2_with (go_at_call 20; refine (isNaN_any _ _).mono ?_; rintro e w' ⟨rfl, rfl⟩)
      go_ret
      exact ⟨rfl, rfl⟩
def orI (a c : Int) : Int := if a = 0 then c else a
theorem Or_any (b : Nat) (a c : Int) (w : World) (h0 : w.cell? ⟨b, 0, none⟩ = some (.int .i64 a)) (h1 : w.cell? ⟨b, 1, none⟩ = some (.int .i64 c)) :
    Calls Tryd.prog 15 #[.slice (some ⟨b, 0, none⟩) 2 2] w fun e w' => e = .returned (.int .i64 (orI a c)) ∧ w = w' := by
  go_enter Tryd.func15, Tryd.ntmps15
  go_wp2
  go_loopg [8] 2 (fun g i W => W = w ∧ ∃ k : Nat, k + g = 2 ∧ i = .int .i64 k ∧ (0 < k → a = 0) ∧ (1 < k → c = 0))
  case atStart => exact ⟨rfl, 0, by omega, rfl, by omega, by omega⟩
  case round =>
    obtain ⟨rfl, k, hk, rfl, ha, hc⟩ := hrel
    have HA := Lib.hid ha; have HC := Lib.hid hc
    clear ha hc
    rcases (show k = 0 ∨ k = 1 ∨ k = 2 by omega) with rfl | rfl | rfl
    · by_cases hz : a = 0
      · have hd : (a != 0) = false := by simp [hz]
        have HZ := Lib.hid hz
        clear hz
        go_wp2
        go_roundg 1
        case measure => omega
        case rel => exact ⟨rfl, 1, by omega, rfl, fun _ => HZ.out, by omega⟩
      · have hd : (a != 0) = true := by simp [hz]
        have HZ := Lib.hid (show orI a c = a from if_neg hz)
        clear hz
        go_wp2
        go_ret
        exact ⟨ret_int HZ.out.symm, rfl⟩
    · by_cases hz : c = 0
      · have hd : (c != 0) = false := by simp [hz]
        have HZ := Lib.hid hz
        clear hz
        go_wp2
        go_roundg 0
        case measure => omega
        case rel => exact ⟨rfl, 2, by omega, rfl, fun _ => HA.out (by omega), fun _ => HZ.out⟩
      · have hd : (c != 0) = true := by simp [hz]
        have HZ := Lib.hid (show orI a c = c from if_pos (HA.out (by omega)))
        clear hz
        go_wp2
        go_ret
        exact ⟨ret_int HZ.out.symm, rfl⟩
    · have HZ := Lib.hid (show orI a c = 0 by rw [orI, if_pos (HA.out (by omega)), HC.out (by omega)])
      go_wp2
      go_ret
      exact ⟨ret_int HZ.out.symm, rfl⟩

theorem block2 {W : World} {b : Nat} {x y : Value} {t : TypeId} (h : W.heap[b]? = some (.cells #[x, y] t (0, 0))) : W.cell? ⟨b, 0, none⟩ = some x ∧ W.cell? ⟨b, 1, none⟩ = some y := by
  refine ⟨?_, ?_⟩ <;> simp [World.cell?, h]
def cfP (x y : Int × Int) : Int := orI (cmpI y.2 x.2) (cmpI x.1 y.1)
set_option maxHeartbeats 2000000 in
set_option maxRecDepth 100000 in
theorem closure_any (x1 x2 y1 y2 : Int) (W : World) :
    Calls Tryd.prog 14 #[.agg #[.int .i64 x1, .int .i64 x2], .agg #[.int .i64 y1, .int .i64 y2]] W fun e w' => e = .returned (.int .i64 (orI (cmpI y2 x2) (cmpI x1 y1))) ∧ ∃ q os', w' = grow (W.drewN q) os' := by
  go_enter Tryd.func14, Tryd.ntmps14
  go_wp2_with fail
  have ec : ∀ args w, (callFunc 16 args).run Tryd.prog w = .ok (.enter 16 args) w := enters_of Tryd.func16 (by kernel_rfl) rfl
  refine wp_forget (fun w2 => w2 = (W.alloc (.cells #[.int .i64 x1, .int .i64 x2] 44)).alloc (.cells #[.int .i64 y1, .int .i64 y2] 44)) rfl ?_
  intro w2 hw2
  have hcs := alloc2_both W (.cells #[.int .i64 x1, .int .i64 x2] 44) (.cells #[.int .i64 y1, .int .i64 y2] 44) 0
  obtain ⟨p1, p2⟩ : w2.cell? ⟨W.heap.size, 0, none⟩ = some (.int .i64 x1) ∧ w2.cell? ⟨W.heap.size, 1, none⟩ = some (.int .i64 x2) := by rw [hw2]; exact block2 hcs.1
  obtain ⟨p3, p4⟩ : w2.cell? ⟨W.heap.size + 1, 0, none⟩ = some (.int .i64 y1) ∧ w2.cell? ⟨W.heap.size + 1, 1, none⟩ = some (.int .i64 y2) := by rw [hw2]; exact block2 hcs.2
  have HW2 := Lib.hid hw2
  clear hw2 hcs
  refine wp_region_still_tail 10 (by kernel_rfl) (by kernel_rfl) ?_
  simp only [List.take_succ_cons, List.take_zero, List.drop_succ_cons, List.drop_zero]
  repeat still_step
  still_call ((Compare_any y2 x2 _).mono (fun e w' h => ⟨h.1, h.2.symm⟩))
  repeat still_step
  still_call ((Compare_any x1 y1 _).mono (fun e w' h => ⟨h.1, h.2.symm⟩))
  refine wpStill_nil ?_
  have HCS := Lib.hid (block2 (heap_alloc_new w2.drew (.cells #[.int .i64 (cmpI y2 x2), .int .i64 (cmpI x1 y1)] 3)))
  clear p1 p2 p3 p4 ec
  go_wp2_with (go_at_call 15; refine (Or_any _ (cmpI y2 x2) (cmpI x1 y1) _ HCS.out.1 HCS.out.2).mono ?_; rintro e w' ⟨rfl, rfl⟩)
  go_ret
  refine ⟨rfl, 1, #[.cells #[.int .i64 x1, .int .i64 x2] 44, .cells #[.int .i64 y1, .int .i64 y2] 44, .cells #[.int .i64 (cmpI y2 x2), .int .i64 (cmpI x1 y1)] 3], ?_⟩
  rw [HW2.out, alloc_eq_grow, alloc_eq_grow, alloc_eq_grow]
  show grow (grow (grow (W.drewN 1) _) _) _ = _
  rw [grow_grow, grow_grow]
  rfl

def encP (x : Int × Int) : List Value := [.int .i64 x.1, .int .i64 x.2]
def flP (ps : List (Int × Int)) : List Value := ps.flatMap encP
theorem flP_length : ∀ ps : List (Int × Int), (flP ps).length = ps.length * 2
  | [] => rfl
  | p :: ps => by
    show (encP p ++ flP ps).length = _
    rw [List.length_append, flP_length ps]
    simp [encP]; omega
theorem flP_snoc (ps : List (Int × Int)) (p : Int × Int) : flP (ps ++ [p]) = flP ps ++ encP p := by simp [flP]
theorem flP_get : ∀ (ps : List (Int × Int)) (t : Nat), t < ps.length * 2 → (flP ps)[t]? = some ((encP ps[t / 2]!)[t % 2]!)
  | p :: ps, 0, _ => rfl
  | p :: ps, 1, _ => rfl
  | p :: ps, t + 2, h => by
    have h1 := flP_get ps t (by simp at h; omega)
    have e1 : (t + 2) / 2 = t / 2 + 1 := by omega
    have e2 : (t + 2) % 2 = t % 2 := by omega
    rw [e1, e2]
    show (encP p ++ flP ps)[t + 2]? = _
    rw [List.getElem?_append_right (by simp [encP]), show t + 2 - (encP p).length = t by simp [encP], h1]
    simp
theorem holds_flP {W : World} {g : Nat} {cur : Array Value} {e : TypeId} {ps : List (Int × Int)} (hb : W.heap[g]? = some (.cells cur e (0, 0))) (ht : cur.toList.take (ps.length * 2) = flP ps) : HoldsK encP 2 W g 0 ps.toArray := by
  intro t h
  have ht' : t < ps.length * 2 := by simpa using h
  refine ⟨?_, by simp [World.frozen?, hb]⟩
  have h1 := flP_get ps t ht'
  rw [← ht, List.getElem?_take, if_pos ht'] at h1
  rw [get_flatK _ _ _ _ (by simpa using ht')]
  simp only [World.cell?, hb, Nat.zero_add]
  simpa using h1
theorem grown_sortK {W : World} {g n : Nat} {os : Array Obj} (d : Array (Int × Int)) : W.grownBy (sortWorldK encP 2 W g 0 n d os) (some g) := by
  refine ⟨rfl, rfl, rfl, by simp [sortWorldK, putRowK, putRow, mapBlock, Sort.ahead, grow], fun k hk hne => ?_⟩
  have hgk : g ≠ k := fun e => hne (by rw [e])
  unfold sortWorldK
  rw [heap_grow_old _ _ (by simpa [putRowK, putRow, mapBlock, Sort.ahead] using hk)]
  simp [putRowK, putRow, mapBlock, Sort.ahead, Array.getElem?_modify, hgk]
theorem prs_sortK {W : World} {g n cap : Nat} {os : Array Obj} {d0 d : Array (Int × Int)} (h0 : HoldsK encP 2 W g 0 d0) (hs : d.size = d0.size) (hg : g < W.heap.size) (hb : d.size ≤ 9223372036854775807) :
    Prs (sortWorldK encP 2 W g 0 n d os) (.slice (some ⟨g, 0, none⟩) d.size cap) d.toList := by
  have h1 : HoldsK encP 2 (sortWorldK encP 2 W g 0 n d os) g 0 d := holdsK_grow _ _ _ _ _ _ _ (by simpa [putRowK, putRow, mapBlock, Sort.ahead] using hg) (holdsK_putRowK _ _ _ _ _ _ _ (holdsK_ahead _ _ _ n _ _ _ h0) hs)
  refine ⟨_, cap, by simp, by simpa using hb, fun _ => ⟨g, 0, rfl, fun i hi => ?_⟩⟩
  have hi' : i < d.size := by simpa using hi
  have a0 := (h1.cell hi' (show 0 < 2 by omega)).1
  have a1 := (h1.cell hi' (show 1 < 2 by omega)).1
  have e : d[i]! = d.toList.getD i (0, 0) := by simp [hi']
  rw [e] at a0 a1
  exact ⟨a0, a1⟩
theorem cfP_lt (x y : Int × Int) : ltOf cfP x y = decide (Bf x y) := by
  unfold ltOf cfP orI cmpI Bf
  congr 1
  apply propext
  by_cases h1 : y.2 < x.2
  · simp [h1]
  · by_cases h2 : x.2 < y.2
    · simp [h1, h2]; omega
    · by_cases h3 : x.1 < y.1
      · simp [h1, h2, h3]; omega
      · by_cases h4 : y.1 < x.1
        · simp [h1, h2, h3, h4]
        · simp [h1, h2, h3, h4]
theorem cfP_swo : SWO (ltOf cfP) where
  irrefl x := by simp only [cfP_lt, decide_eq_false_iff_not]; exact Bf.irrefl x
  trans x y z h1 h2 := by simp only [cfP_lt, decide_eq_true_eq] at *; exact h1.trans h2
  ntrans x y z h1 h2 := by simp only [cfP_lt, decide_eq_false_iff_not] at *; unfold Bf at *; omega
theorem cmpLaysP (blk off size : Nat) (w : World) : CmpLays Tryd.prog 14 #[] encP 2 cfP blk off size w :=
  fun _ _ _ _ x y => closure_any x.1 x.2 y.1 y.2 _

theorem infoPair : (Tryd.prog.info? 44).map (fun i => (i.zero, i.size, i.bytes)) = some (some (.agg #[.int .i64 0, .int .i64 0]), 2, 16) := by kernel_rfl
theorem isAggP (w : World) : (isAgg 44).run Tryd.prog w = .ok true w := by kernel_rfl
theorem sizeOfP (w : World) : (Go.sizeOf 44).run Tryd.prog w = .ok 2 w := by kernel_rfl

set_option maxHeartbeats 2000000 in
set_option maxRecDepth 100000 in
theorem sorted_any : SortsP := by
  intro b n f w ⟨D, hown, hC⟩ hn hf
  have hsk : Maps.size D ≤ n := by
    obtain ⟨es, clock, _, _, hs, rfl⟩ := hown
    simp [Maps.size, length_sorted]
    exact hs
  have HC := Lib.hid hC
  have hblt := hown.lt
  clear hC
  have hrow0 := World.ownsRow_nil w (w.heap.size + 1) 44 2
  go_enter Tryd.func10, Tryd.ntmps10
  go_wp2_with (at_range; refine wpList_range_own _ rfl _ 23 rfl 3 3 lawK Tryd.underlying23 _ b n _ rfl hown ?_; intro w0 hrg0 hg0 hs0; clear hs0)
  go_frame
  have hr0 := hrg0.lt
  go_loopg [3] (Maps.size D) (fun g o W => Below w.heap.size w W ∧ w.heap.size < W.heap.size ∧ ∃ (left : Lit → Bool) (ps : List (Int × Int)), W.ranges Tryd.prog 3 (plainElem Tryd.prog 3) b w.heap.size n D left g ∧
    ps.length + g ≤ Maps.size D ∧ CollOf f (fun x => !left (kl x)) ps ∧ W.ownsRow (w.heap.size + 1) 44 2 o ps.length (flP ps))
  case atStart =>
    exact ⟨(Below.refl _ _).grown hg0 (Nat.le_refl _) (fun j hj => by cases hj), hr0, _, [], hrg0, by simp, CollOf.nil (fun x hx => by rw [HC.out.has]; simpa using hx), hrow0.kept hg0 (.inl rfl)⟩
  case round =>
    obtain ⟨hb, hr, left, ps, hrg, hpg, hco, hrow⟩ := hrel
    have HB := Lib.hid hb; have HCO := Lib.hid hco
    clear hb hco hrg0 hg0 hrow0 hown
    go_wp2_with (at_next; refine wpList_next_ranges_ii _ rfl _ rfl 3 3 .i64 .i64 lawK Tryd.underlying3 Tryd.underlying3 b w.heap.size n _ _ _ rfl hrg ?_ ?_)
    · intro _ hl0
      have HL0 := Lib.hid hl0
      clear hl0
      have hco2 : CollOf f (fun _ => true) ps := ⟨HCO.out.1, fun p => by rw [HCO.out.2 p]; simp [HL0.out]⟩
      have HCO2 := Lib.hid hco2
      clear hco2 hrg
      rcases hrow.2 with ⟨hnil, h0⟩ | ⟨g, cap, cur, hv, hbase, hheap, h1, h2, h3, h4⟩
      · have hps : ps = [] := List.eq_nil_of_length_eq_zero h0
        have HNO := Lib.hid (AnyF.slices_SortFunc_none Tryd.laysSortP none 0 (.func (.func 14) #[] #[]) wr)
        have HPS := Lib.hid hps
        clear hps hrow h0
        subst hnil
        go_wp2_with (go_at_call 13; refine HNO.out.mono ?_; rintro e w' ⟨rfl, rfl⟩)
        go_ret
        exact ⟨_, [], rfl, SortedOf.perm HCO2.out (by rw [HPS.out]) List.Pairwise.nil, Prs.nil _, HB.out⟩
      · subst hv
        have eg : ∀ args w, (callFunc 14 args).run Tryd.prog w = .ok (.enter 14 args) w := enters_of Tryd.func14 (by kernel_rfl) rfl
        have hgl : g < wr.heap.size := (Array.getElem?_eq_some_iff.1 hheap).1
        have hho := holds_flP hheap h4
        have hcon := AnyQ.slices_SortFunc Tryd.laysSortP 2 isAggP sizeOfP encP (fun _ => rfl) (fun x v hv => by simp [encP] at hv; rcases hv with rfl | rfl <;> rfl) cfP cfP_swo 14 #[] g 0 cap ps.toArray wr eg (cmpLaysP g 0 _ wr) hho hgl (by simp; omega)
        rw [List.size_toArray] at hcon
        have HCON := Lib.hid hcon; have HHO := Lib.hid hho
        clear hcon hho eg hrow hheap h4
        go_wp2_with (go_at_call 13; refine HCON.out.mono ?_; rintro e w' ⟨rfl, d', m, os, hp, hs, rfl⟩)
        go_ret
        have hsz : d'.size = ps.length := by have := hp.1; simpa using this
        have hperm : d'.toList.Perm ps := by
          have h := hp.2.2
          have e1 : (d'.extract 0 ps.length) = d' := by rw [← hsz]; simp
          have e2 : (ps.toArray.extract 0 ps.length) = ps.toArray := by simp
          rw [e1, e2] at h
          exact h
        have hpw : d'.toList.Pairwise (fun p q => ¬ Bf q p) := by
          rw [List.pairwise_iff_getElem]
          intro i j hi hj hij
          have h := hs i j (Nat.zero_le _) hij (by rw [← hsz]; simpa using hj)
          rw [cfP_lt] at h
          simp only [Array.length_toList] at hi hj
          simpa [hi, hj] using h
        have hpr := prs_sortK (n := m) (cap := cap) (os := os) HHO.out (by simpa using hsz) hgl (by rw [hsz]; omega)
        rw [hsz] at hpr
        exact ⟨_, d'.toList, rfl, SortedOf.perm HCO2.out hperm hpw, hpr, HB.out.grown (grown_sortK _) HB.out.size (fun j hj => by cases hj; omega)⟩
    · intro x c w1 cnt1 hwx hwc hlx hat hrg1 hlt1 hg1 hs1 hen
      change left (kl x) = true at hlx
      have hhx : Maps.has D (kl x) = true := Maps.has_true_of_atKey hat
      have hpx : 0 < f x := by
        have := HC.out.has x
        rw [hhx] at this
        simpa using this.symm
      have hcx : c = f x := lit_eq ((hat _).symm.trans (HC.out.val x hpx (.lit (.int .i64 0))))
      have hrow1 := hrow.kept hg1 (by
        cases hv : (u3 : Value).ownBlock with
        | none => exact .inl rfl
        | some k => right; intro e; cases e; have := (hrow.lt _ hv).1; omega)
      have hsz1 := hg1.size
      have HCX := Lib.hid hcx; have HG1 := Lib.hid hg1; have HLX := Lib.hid hlx; have HPX := Lib.hid hpx
      clear hcx hg1 hs1 hlx hpx hwc hrg hhx hat hrow
      go_wp2_with (at_builtin; refine wpList_append_fresh rfl _ _ 27 rfl (w.heap.size + 1) 44 (.agg #[.int .i64 0, .int .i64 0]) 2 16 Tryd.underlying27 infoPair rfl (by decide) _ _ _ rfl w1 hrow1 1 [.int .i64 x, .int .i64 c] 0 rfl rfl rfl (by simp [Value.oneCell']) (by decide) (by omega) (by omega) (by omega) ?_; intro g cp w2 ho hgr hat2 hlt2)
      go_roundg cnt1
      case measure => omega
      case rel =>
        have hlb : ∀ k, (u3 : Value).ownBlock = some k → w.heap.size + 1 ≤ k := fun k hk => (hrow1.lt k hk).1
        have hgs := hgr.size
        refine ⟨(HB.out.grown HG1.out HB.out.size (fun j hj => by cases hj; exact Nat.le_refl _)).grown hgr (by omega) (fun j hj => by have := hlb j hj; omega), by omega, _, ps ++ [(x, f x)], hrg1.kept hgr (fun e => by have := hlb b e.symm; omega) (fun e => by have := hlb _ e.symm; omega), by simp; omega, HCO.out.add HPX.out (by simp [HLX.out]) (fun y => ?_), ?_⟩
        · simp only [sk]
          by_cases e : y = x
          · subst e; simp
          · simp [e]
        · rw [flP_snoc, List.length_append]
          show w2.ownsRow _ _ _ _ (ps.length + 1) (flP ps ++ [.int .i64 x, .int .i64 (f x)])
          rw [← HCX.out]; exact ho
end Go.Proofs.YtnefldamfhockaaDoor
