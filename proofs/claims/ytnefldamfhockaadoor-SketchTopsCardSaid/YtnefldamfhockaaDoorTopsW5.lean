/-
  What is proved here: the document's 'Sorted' (16.1): of a map of counts its pairs, each put in at its place.
-/
import Derived.Test.YtnefldamfhockaaDoorTopsW4
import Derived.Test.YtnefldamfhockaaDoorTopsW3
import Derived.Test.YtnefldamfhockaaDoorCopyK
import Derived.Deep.Slices
namespace Go.Proofs.YtnefldamfhockaaDoor
open Go.RowKit Go.Maps

theorem infoRPair : (Tryd.prog.info? 45).map (fun i => (i.zero, i.size, i.bytes)) = some (some (.agg #[.int .i64 0, .int .i64 0]), 2, 16) := by kernel_rfl
theorem sizeRPair : (Tryd.prog.info? 45).map (·.size) = some 2 := by kernel_rfl
theorem owns_form2 {W : World} {base : Nat} {e : TypeId} {n : Nat} {v : Value} {ps : List (Int × Int)} (h : W.ownsRow base e 2 v n (flP ps)) (hn : n = ps.length) :
    ∃ a cap, v = .slice a ps.length cap ∧ (0 < ps.length → ∃ g, a = some ⟨g, 0, none⟩ ∧ ∀ i, i < ps.length → W.cell? ⟨g, i * 2, none⟩ = some (.int .i64 (pk1 ps i)) ∧ W.cell? ⟨g, i * 2 + 1, none⟩ = some (.int .i64 (pk2 ps i))) := by
  subst hn
  rcases h.2 with ⟨h1, h2⟩ | ⟨g, cap, cur, h1, _, hh, h3, h4, h5, h6⟩
  · exact ⟨none, 0, by rw [h1, h2], fun h => by omega⟩
  · refine ⟨_, cap, h1, fun _ => ⟨g, rfl, fun i hi => ?_⟩⟩
    have g0 := flP_get ps (i * 2) (by omega)
    have g1 := flP_get ps (i * 2 + 1) (by omega)
    rw [← h6, List.getElem?_take, if_pos (by omega)] at g0 g1
    rw [show i * 2 / 2 = i by omega, show i * 2 % 2 = 0 by omega] at g0
    rw [show (i * 2 + 1) / 2 = i by omega, show (i * 2 + 1) % 2 = 1 by omega] at g1
    have e : ps[i]! = ps.getD i (0, 0) := by simp [hi]
    rw [e] at g0 g1
    constructor
    · simp only [World.cell?, hh]; simpa [encP, pk1] using g0
    · simp only [World.cell?, hh]; simpa [encP, pk2] using g1

theorem owns_inv {W : World} {base : Nat} {e : TypeId} {n size g cap : Nat} {xs : List Value} (h : W.ownsRow base e size (.slice (some ⟨g, 0, none⟩) n cap) n xs) :
    ∃ cur : Array Value, base ≤ g ∧ W.heap[g]? = some (.cells cur e (0, 0)) ∧ n ≤ cap ∧ cap ≤ maxLen ∧ cur.size = cap * size ∧ cur.toList.take (n * size) = xs := by
  rcases h.2 with ⟨h1, _⟩ | ⟨g', cap', cur, h1, h2, h3, h4, h5, h6, h7⟩
  · cases h1
  · cases h1; exact ⟨cur, h2, h3, h4, h5, h6, h7⟩
theorem cells_at2 {W : World} {g a : Nat} {e : TypeId} {L A R : List Value} {u v : Value} (h : W.heap[g]? = some (.cells L.toArray e (0, 0))) (hL : L = A ++ (u :: v :: R)) (hA : A.length = a * 2) :
    W.cell? ⟨g, a * 2, none⟩ = some u ∧ W.cell? ⟨g, a * 2 + 1, none⟩ = some v ∧ W.frozen? ⟨g, a * 2, none⟩ = false ∧ W.frozen? ⟨g, a * 2 + 1, none⟩ = false := by
  subst hL
  refine ⟨?_, ?_, by simp [World.frozen?, h], by simp [World.frozen?, h]⟩
  · simp only [World.cell?, h]
    simp [← hA]
  · simp only [World.cell?, h]
    rw [show a * 2 + 1 = A.length + 1 by omega]
    simp
theorem flP_take_length {ps : List (Int × Int)} {a : Nat} (h : a ≤ ps.length) : (flP (ps.take a)).length = a * 2 := by rw [flP_length, List.length_take, Nat.min_eq_left h]
theorem flP_append (l m : List (Int × Int)) : flP (l ++ m) = flP l ++ flP m := by simp [flP]
/-- The cells, where what stands from place a on has moved by one pair. -/
def mvd (cur : List Value) (ps : List (Int × Int)) (a : Nat) : List Value := cur.take ((a + 1) * 2) ++ (flP (ps.drop a) ++ cur.drop ((a + 1) * 2 + (flP (ps.drop a)).length))
theorem mvd_parts {cur : List Value} {ps : List (Int × Int)} {a : Nat} (ha : a ≤ ps.length) (hc : cur.take ((ps.length + 1) * 2) = flP ps ++ [.int .i64 0, .int .i64 0]) :
    ∃ u v rest, mvd cur ps a = flP (ps.take a) ++ (u :: v :: (flP (ps.drop a) ++ rest)) := by
  have hla : (flP (ps.take a)).length = a * 2 := by rw [flP_length, List.length_take]; omega
  have hsp : flP ps = flP (ps.take a) ++ flP (ps.drop a) := by rw [← flP_append, List.take_append_drop]
  have h1 : cur.take ((a + 1) * 2) = flP (ps.take a) ++ ((flP (ps.drop a) ++ [Value.int .i64 0, Value.int .i64 0]).take 2) := by
    have : cur.take ((a + 1) * 2) = (cur.take ((ps.length + 1) * 2)).take ((a + 1) * 2) := by rw [List.take_take, Nat.min_eq_left (by omega)]
    rw [this, hc, hsp, List.append_assoc, List.take_append, List.take_of_length_le (by omega), hla, show (a + 1) * 2 - a * 2 = 2 by omega]
  have h2 : ∃ u v : Value, (flP (ps.drop a) ++ [Value.int .i64 0, Value.int .i64 0]).take 2 = [u, v] := by
    cases hd : ps.drop a with
    | nil => exact ⟨_, _, rfl⟩
    | cons p r => exact ⟨_, _, rfl⟩
  obtain ⟨u, v, h2⟩ := h2
  refine ⟨u, v, cur.drop ((a + 1) * 2 + (flP (ps.drop a)).length), ?_⟩
  unfold mvd
  rw [h1, h2]; simp
theorem mvd_set {cur : List Value} {ps : List (Int × Int)} {a : Nat} {x c : Int} (ha : a ≤ ps.length) (hc : cur.take ((ps.length + 1) * 2) = flP ps ++ [.int .i64 0, .int .i64 0]) :
    (((mvd cur ps a).set (a * 2) (.int .i64 x)).set (a * 2 + 1) (.int .i64 c)).take ((ps.length + 1) * 2) = flP (ps.take a ++ (x, c) :: ps.drop a) := by
  obtain ⟨u, v, rest, he⟩ := mvd_parts ha hc
  have hla : (flP (ps.take a)).length = a * 2 := by rw [flP_length, List.length_take]; omega
  have hld : (flP (ps.drop a)).length = (ps.length - a) * 2 := by rw [flP_length, List.length_drop]
  have e2 : flP (ps.take a ++ (x, c) :: ps.drop a) = flP (ps.take a) ++ (.int .i64 x :: .int .i64 c :: flP (ps.drop a)) := by rw [flP_append]; rfl
  rw [he, e2, List.set_append_right _ _ (by omega), List.set_append_right _ _ (by omega), hla, Nat.sub_self, show a * 2 + 1 - a * 2 = 1 by omega]
  simp only [List.set_cons_zero, List.set_cons_succ]
  rw [show flP (ps.take a) ++ (Value.int .i64 x :: Value.int .i64 c :: (flP (ps.drop a) ++ rest)) = (flP (ps.take a) ++ (Value.int .i64 x :: Value.int .i64 c :: flP (ps.drop a))) ++ rest by simp,
    List.take_append_of_le_length (by simp [hla, hld]; omega), List.take_of_length_le (by simp [hla, hld]; omega)]
theorem mvd_length {cur : List Value} {ps : List (Int × Int)} {a : Nat} (ha : a ≤ ps.length) (hl : (ps.length + 1) * 2 ≤ cur.length) : (mvd cur ps a).length = cur.length := by
  have hld : (flP (ps.drop a)).length = (ps.length - a) * 2 := by rw [flP_length, List.length_drop]
  unfold mvd
  rw [List.length_append, List.length_append, List.length_take, List.length_drop, hld]
  omega
theorem flP_one (l : List (Int × Int)) : ∀ v ∈ flP l, v.oneCell' = true := by
  intro v hv
  obtain ⟨p, _, hp⟩ := List.mem_flatMap.1 hv
  simp [encP] at hp
  rcases hp with rfl | rfl <;> rfl
theorem flP_drop_get {cur : Array Value} {ps : List (Int × Int)} {a : Nat} (ha : a ≤ ps.length) (hc : cur.toList.take ((ps.length + 1) * 2) = flP ps ++ [.int .i64 0, .int .i64 0]) {j : Nat} {v : Value}
    (h : (flP (ps.drop a))[j]? = some v) : cur[a * 2 + j]? = some v := by
  have hla : (flP (ps.take a)).length = a * 2 := by rw [flP_length, List.length_take]; omega
  have hld : (flP (ps.drop a)).length = (ps.length - a) * 2 := by rw [flP_length, List.length_drop]
  have hj : j < (ps.length - a) * 2 := by rw [← hld]; exact (List.getElem?_eq_some_iff.1 h).1
  have h1 : (cur.toList.take ((ps.length + 1) * 2))[a * 2 + j]? = some v := by
    have hsp : flP ps = flP (ps.take a) ++ flP (ps.drop a) := by rw [← flP_append, List.take_append_drop]
    rw [hc, hsp, List.append_assoc, List.getElem?_append_right (by omega), hla, show a * 2 + j - a * 2 = j by omega, List.getElem?_append_left (by omega)]
    exact h
  rw [List.getElem?_take, if_pos (by omega)] at h1
  simpa using h1

theorem heap_set2 {W : World} {g i j : Nat} {A : Array Value} {e : TypeId} (x y : Value) (h : W.heap[g]? = some (.cells A e (0, 0))) :
    ((W.setCell ⟨g, i, none⟩ x).setCell ⟨g, j, none⟩ y).heap[g]? = some (.cells ((A.setIfInBounds i x).setIfInBounds j y) e (0, 0)) := by
  simp [World.setCell, Array.getElem?_modify, h]
theorem ref_rel {w w0 w1 w2 w3 : World} {b n g2 gk cp cnt1 : Nat} {D : DataW Unit} {left : Lit → Bool} {ps : List (Int × Int)} {x c : Int} {row : Option Nat} {cur : Array Value} {e : TypeId}
    (HB : Below w.heap.size w w0) (HG1 : w0.grownBy w1 (some w.heap.size)) (HGR : w1.grownBy w2 row) (hOB : ∀ k, row = some k → w.heap.size + 1 ≤ k) (HG3 : w2.drew.grownBy w3 (some g2)) (hbase : w.heap.size + 1 ≤ g2) (hblt : b < w.heap.size)
    (hr : w.heap.size < w0.heap.size) (HRG1 : w1.ranges Tryd.prog 3 (plainElem Tryd.prog 3) b w.heap.size n D left cnt1) (HH3 : w3.heap[g2]? = some (.cells (mvd cur.toList ps gk).toArray e (0, 0)))
    (hml : (mvd cur.toList ps gk).length = cp * 2) (hgk : gk ≤ ps.length) (hc : ps.length + 1 ≤ cp) (hcm : cp ≤ maxLen)
    (hset : (((mvd cur.toList ps gk).set (gk * 2) (.int .i64 x)).set (gk * 2 + 1) (.int .i64 c)).take ((ps.length + 1) * 2) = flP (ps.take gk ++ (x, c) :: ps.drop gk)) :
    Below w.heap.size w ((w3.setCell ⟨g2, gk * 2, none⟩ (.int .i64 x)).setCell ⟨g2, gk * 2 + 1, none⟩ (.int .i64 c)) ∧ w.heap.size < ((w3.setCell ⟨g2, gk * 2, none⟩ (.int .i64 x)).setCell ⟨g2, gk * 2 + 1, none⟩ (.int .i64 c)).heap.size ∧
    ((w3.setCell ⟨g2, gk * 2, none⟩ (.int .i64 x)).setCell ⟨g2, gk * 2 + 1, none⟩ (.int .i64 c)).ranges Tryd.prog 3 (plainElem Tryd.prog 3) b w.heap.size n D left cnt1 ∧
    ((w3.setCell ⟨g2, gk * 2, none⟩ (.int .i64 x)).setCell ⟨g2, gk * 2 + 1, none⟩ (.int .i64 c)).ownsRow (w.heap.size + 1) e 2 (.slice (some ⟨g2, 0, none⟩) (ps.length + 1) cp) (ps.take gk ++ (x, c) :: ps.drop gk).length (flP (ps.take gk ++ (x, c) :: ps.drop gk)) := by
  have hg4 : w3.grownBy ((w3.setCell ⟨g2, gk * 2, none⟩ (.int .i64 x)).setCell ⟨g2, gk * 2 + 1, none⟩ (.int .i64 c)) (some g2) := grownBy_setCell (grownBy_setCell (grownBy_refl _ _) _ _) _ _
  have hgd : w2.grownBy w2.drew none := grownBy_drewN (grownBy_refl _ _) 1
  have s1 := HG1.size; have s2 := HGR.size; have s3 := HG3.size; have s4 := hg4.size
  have s3' : w2.heap.size ≤ w3.heap.size := s3
  refine ⟨((((HB.grown HG1 (by omega) (fun j hj => by cases hj; omega)).grown HGR (by omega) (fun j hj => by have := hOB j hj; omega)).grown hgd (by omega) (fun j hj => by cases hj)).grown HG3 (show w.heap.size ≤ w2.heap.size by omega) (fun j hj => by cases hj; omega)).grown hg4 (by omega) (fun j hj => by cases hj; omega),
    by omega, ?_, ?_⟩
  · refine ((HRG1.kept HGR (fun h => by have := hOB b h.symm; omega) (fun h => by have := hOB _ h.symm; omega)).kept hgd (by simp) (by simp)).kept HG3 (fun h => by cases h; omega) (fun h => by cases h; omega) |>.kept hg4 (fun h => by cases h; omega) (fun h => by cases h; omega)
  · have hlen : (ps.take gk ++ (x, c) :: ps.drop gk).length = ps.length + 1 := by simp; omega
    rw [hlen]
    refine ⟨by rw [flP_length, hlen], .inr ⟨g2, cp, _, rfl, hbase, heap_set2 _ _ HH3, hc, hcm, by simp [hml], ?_⟩⟩
    simpa using hset

set_option maxHeartbeats 2000000 in
set_option maxRecDepth 100000 in
theorem Sorted_any : RefSortsP := by
  intro b n f w ⟨D, hown, hC⟩ hn hf
  have hsk : Maps.size D ≤ n := size_le hown
  have HC := Lib.hid hC
  have hblt := hown.lt
  clear hC
  have hrow0 := World.ownsRow_nil w (w.heap.size + 1) 45 2
  go_enter Tryd.func9, Tryd.ntmps9
  go_wp2_with (at_range; refine wpList_range_own _ rfl _ 23 rfl 3 3 lawK Tryd.underlying23 _ b n _ rfl hown ?_; intro w0 hrg0 hg0 hs0; clear hs0)
  go_frame
  have hr0 := hrg0.lt
  go_loopg [3] (Maps.size D) (fun g o W => Below w.heap.size w W ∧ w.heap.size < W.heap.size ∧ ∃ (left : Lit → Bool) (ps : List (Int × Int)), W.ranges Tryd.prog 3 (plainElem Tryd.prog 3) b w.heap.size n D left g ∧
    ps.length + g ≤ Maps.size D ∧ SortedOf f (fun x => !left (kl x)) ps ∧ W.ownsRow (w.heap.size + 1) 45 2 o ps.length (flP ps))
  case atStart =>
    exact ⟨(Below.refl _ _).grown hg0 (Nat.le_refl _) (fun j hj => by cases hj), hr0, _, [], hrg0, by simp, SortedOf.nil (fun x hx => by rw [HC.out.has]; simpa using hx), hrow0.kept hg0 (.inl rfl)⟩
  case round =>
    obtain ⟨hb, hr, left, ps, hrg, hpg, hco, hrow⟩ := hrel
    have HB := Lib.hid hb; have HCO := Lib.hid hco
    clear hb hco hrg0 hg0 hrow0 hown
    go_wp2_with (at_next; refine wpList_next_ranges_ii _ rfl _ rfl 3 3 .i64 .i64 lawK Tryd.underlying3 Tryd.underlying3 b w.heap.size n _ _ _ rfl hrg ?_ ?_)
    · intro _ hl0
      have HL0 := Lib.hid hl0
      clear hl0
      have hso : SortedOf f (fun _ => true) ps := ⟨HCO.out.1, fun p => by rw [HCO.out.2 p]; simp [HL0.out]⟩
      have HSO := Lib.hid hso
      obtain ⟨aO, capO, rfl, hcell⟩ := owns_form2 hrow rfl
      have HCE := Lib.hid hcell
      clear hso hrg hrow hcell
      go_wp2
      go_ret
      exact ⟨_, ps, rfl, HSO.out, ⟨aO, capO, rfl, by omega, fun h0 => by
        obtain ⟨g, hg, hc⟩ := HCE.out h0
        exact ⟨g, 0, hg, fun i hi => by rw [Nat.zero_add]; exact hc i hi⟩⟩, HB.out⟩
    · intro x c w1 cnt1 hwx hwc hlx hat hrg1 hlt1 hg1 hs1 hen
      change left (kl x) = true at hlx
      have hhx : Maps.has D (kl x) = true := Maps.has_true_of_atKey hat
      have hpx : 0 < f x := by
        have := HC.out.has x
        rw [hhx] at this
        simpa using this.symm
      have hcx : c = f x := lit_eq ((hat _).symm.trans (HC.out.val x hpx (.lit (.int .i64 0))))
      have hrow1 := hrow.kept hg1 (by
        cases hv : (u3 : Value).ownBlock with
        | none => exact .inl rfl
        | some k => right; intro e; cases e; have := (hrow.lt _ hv).1; omega)
      have hsz1 := hg1.size
      obtain ⟨aO, capO, rfl, hcell⟩ := owns_form2 hrow1 rfl
      have HCX := Lib.hid hcx; have HG1 := Lib.hid hg1; have HLX := Lib.hid hlx; have HPX := Lib.hid hpx; have HCE := Lib.hid hcell; have HRG1 := Lib.hid hrg1
      clear hcx hg1 hs1 hlx hpx hwc hrg hhx hat hrow hcell hrg1
      go_wp2_with fail
      go_loopg [6] ps.length (fun a i W => W = w1 ∧ i = .int .i64 (a : Nat) ∧ a ≤ ps.length ∧ ∀ i, a ≤ i → i < ps.length → Bf (x, c) (pk1 ps i, pk2 ps i))
      case atStart => exact ⟨rfl, rfl, Nat.le_refl _, fun i h1 h2 => by omega⟩
      case round =>
        obtain ⟨rfl, rfl, hal, hbf⟩ := hrel
        have HBF := Lib.hid hbf
        clear hbf
        by_cases hgo : 0 < gk ∧ Bf (x, c) (pk1 ps (gk - 1), pk2 ps (gk - 1))
        · obtain ⟨m, rfl⟩ : ∃ m, gk = m + 1 := ⟨gk - 1, by omega⟩
          have hb2 := hgo.2
          rw [show m + 1 - 1 = m by omega] at hb2
          obtain ⟨g, rfl, hcc⟩ := HCE.out (by omega)
          obtain ⟨q1, q2⟩ := hcc m (by omega)
          have HBN := Lib.hid hb2
          rw [show ((m + 1 : Nat) : Int) = (m : Int) + 1 by omega]
          clear hcc hgo
          by_cases hlt : pk2 ps m < c
          · clear hb2
            go_wp2
            go_roundg m
            case measure => omega
            case rel => exact ⟨rfl, rfl, by omega, fun i h1 h2 => by
              by_cases e : i = m
              · subst e; exact HBN.out
              · exact HBF.out i (by omega) h2⟩
          · have heq : pk2 ps m = c := by unfold Bf at hb2; omega
            have hk : x < pk1 ps m := by unfold Bf at hb2; omega
            have hd : (pk2 ps m == c) = true := by simpa using heq
            have hl : ¬ c > c := by omega
            clear hb2 heq
            go_wp2
            go_roundg m
            case measure => omega
            case rel => exact ⟨rfl, rfl, by omega, fun i h1 h2 => by
              by_cases e : i = m
              · subst e; exact HBN.out
              · exact HBF.out i (by omega) h2⟩
        · have hex : 0 < gk → ¬ Bf (x, c) (pk1 ps (gk - 1), pk2 ps (gk - 1)) := fun h1 h2 => hgo ⟨h1, h2⟩
          have HEX := Lib.hid hex
          have hw : gk ≤ 0 ∨ (0 < gk ∧ ∃ g, aO = some ⟨g, 0, none⟩ ∧ wr.cell? ⟨g, (gk - 1) * 2, none⟩ = some (.int .i64 (pk1 ps (gk - 1))) ∧ wr.cell? ⟨g, (gk - 1) * 2 + 1, none⟩ = some (.int .i64 (pk2 ps (gk - 1))) ∧
              ¬ pk2 ps (gk - 1) < c ∧ ((pk2 ps (gk - 1) == c) = false ∨ ((pk2 ps (gk - 1) == c) = true ∧ ¬ x < pk1 ps (gk - 1)))) := by
            rcases Nat.eq_zero_or_pos gk with h | h
            · exact .inl (by omega)
            · obtain ⟨g, hg, hcc⟩ := HCE.out (by omega)
              obtain ⟨q1, q2⟩ := hcc (gk - 1) (by omega)
              have hb2 := hex h
              refine .inr ⟨h, g, hg, q1, q2, fun h1 => hb2 (.inl h1), ?_⟩
              by_cases e : pk2 ps (gk - 1) = c
              · exact .inr ⟨by simpa using e, fun h1 => hb2 (.inr ⟨e.symm, h1⟩)⟩
              · exact .inl (by simpa using e)
          clear hex hgo
          rcases hw with h0 | ⟨h0, g, rfl, q1, q2, h1, h2 | ⟨h2, h3⟩⟩
          all_goals
            go_wp2_with (at_builtin; refine wpList_append_fresh rfl _ _ 25 rfl (w.heap.size + 1) 45 (.agg #[.int .i64 0, .int .i64 0]) 2 16 Tryd.underlying25 infoRPair rfl (by decide) _ _ _ rfl wr hrow1 1 [.int .i64 0, .int .i64 0] 0 rfl rfl rfl (by simp [Value.oneCell']) (by decide) (by omega) (by omega) (by omega) ?_; intro g2 cp w2 ho hgr hat2 hlt2)
            obtain ⟨cur, hbase, hheap, k1, k2, k3, k4⟩ := owns_inv ho
            have hpar := mvd_parts (by omega) k4
            have hset := mvd_set (x := x) (c := c) (by omega) k4
            have hml := mvd_length (cur := cur.toList) (ps := ps) (a := gk) (by omega) (by have := Array.length_toList (xs := cur); omega)
            have hdl : (flP (ps.drop gk)).length = (ps.length - gk) * 2 := by rw [flP_length, List.length_drop]
            have hsrc : ∀ j v, (flP (ps.drop gk))[j]? = some v → cur[gk * 2 + j]? = some v := fun j v h => flP_drop_get (by omega) k4 h
            have HPAR := Lib.hid hpar; have HSET := Lib.hid hset; have HML := Lib.hid hml; have HDL := Lib.hid hdl; have HSRC := Lib.hid hsrc; have HH := Lib.hid hheap; have K3 := Lib.hid k3; have HGR := Lib.hid hgr
            unfold maxLen at k2
            have HOB := Lib.hid (fun k hk => (hrow1.lt k hk).1)
            clear hpar hset hml hdl hsrc hheap k3 k4 ho hrow1 hgr hat2
            have hsz2 := HGR.out.size
            by_cases hA : gk < ps.length
            · have hpos : ∀ j v, (flP (ps.drop gk))[j]? = some v → w2.drew.cell? ((⟨g2, gk * 2, none⟩ : Addr).add j) = some v := fun j v h => by
                have h1 := HSRC.out j v h
                rw [WideShapes.add_plain]
                exact (cell_of_row w2 g2 _ cur _ (0, 0) HH.out).trans h1
              have HPOS := Lib.hid hpos; clear hpos
              have t1 : IntKind.i64.wrap ((gk : Int) + 1) = (gk : Int) + 1 := IntWalk.i64_in _ (by omega)
              have t2 : ((gk : Int) + 1).toNat = gk + 1 := by omega
              have t3 : 0 ≤ (gk : Int) + 1 := by omega
              have t4 : (gk : Int) + 1 ≤ (ps.length : Int) + 1 := by omega
              have t5 : (gk : Int) ≤ (ps.length : Int) + 1 := by omega
              have t6 : ¬ cp = gk + 1 := by omega
              have t7 : ¬ cp = gk := by omega
              refine wp_region_still_tail 7 (by kernel_rfl) (by kernel_rfl) ?_
              simp only [List.take_succ_cons, List.take_zero, List.drop_succ_cons, List.drop_zero]
              repeat still_step
              refine wpStill_nil ?_
              clear t1 t2 t3 t4 t5 t6 t7
              go_wp2_with (refine wpList_copyK rfl (.tmp 57) (.tmp 60) 25 25 rfl 45 2 Tryd.underlying25 sizeRPair _ _ _ _ _ _ (by rfl) (by rfl) g2 ((gk + 1) * 2) (ps.length - gk) cur 45 HH.out (flP (ps.drop gk)) (by show _ = min _ _; omega) HDL.out (fun _ => ⟨rfl, _, rfl, HPOS.out⟩) (by rw [HDL.out, K3.out]; omega) (flP_one _) ?_; intro w3 hh3 hg3 hs3; have HH3 := Lib.hid (show w3.heap[g2]? = some (.cells (mvd cur.toList ps gk).toArray 45 (0, 0)) from hh3); have HG3 := Lib.hid hg3; obtain ⟨u, v, r3, hpr⟩ := HPAR.out; obtain ⟨e0, e1, e2, e3⟩ := cells_at2 HH3.out hpr (flP_take_length (by omega)); clear hh3 hg3 hs3 hpr)
              go_roundg cnt1
              case measure => omega
              case rel =>
                have hlc := K3.out
                obtain ⟨r1, r2, r3, r4⟩ := ref_rel (x := x) (c := c) HB.out HG1.out HGR.out HOB.out HG3.out hbase hblt hr HRG1.out HH3.out (by rw [HML.out, Array.length_toList (xs := cur), K3.out]) (by omega) k1 (by unfold maxLen; omega) HSET.out
                refine ⟨r1, r2, _, ps.take gk ++ (x, c) :: ps.drop gk, r3, by simp; omega, ?_, r4⟩
                have hins := HCO.out.ins (x := x) HPX.out (by simp [HLX.out]) (ok' := fun y => !(left (kl y) && !(kl y).sameKey (.int .i64 x))) (fun y => by simp only [sk]; by_cases e : y = x <;> simp [e, HLX.out]) (a := gk) (by omega) (fun p hp0 hp => ?_) (fun i p hi hp => ?_)
                · rw [← HCX.out] at hins; exact hins
                · have h1 := HEX.out (by omega)
                  have e1 : p = (pk1 ps (gk - 1), pk2 ps (gk - 1)) := by
                    simp [pk1, pk2, hp]
                  rw [e1, ← HCX.out]; exact h1
                · have hil := (List.getElem?_eq_some_iff.1 hp).1
                  have h1 := HBF.out i hi hil
                  have e1 : p = (pk1 ps i, pk2 ps i) := by simp [pk1, pk2, hp]
                  rw [e1, ← HCX.out]; exact h1
            · by_cases hB : cp = ps.length + 1
              · have t1 : IntKind.i64.wrap ((gk : Int) + 1) = (gk : Int) + 1 := IntWalk.i64_in _ (by omega)
                have t2 : ((gk : Int) + 1).toNat = gk + 1 := by omega
                have t3 : 0 ≤ (gk : Int) + 1 := by omega
                have t4 : (gk : Int) + 1 ≤ (ps.length : Int) + 1 := by omega
                have t5 : (gk : Int) ≤ (ps.length : Int) + 1 := by omega
                have t6 : cp = gk + 1 := by omega
                have t7 : ¬ cp = gk := by omega
                have HBB := Lib.hid hB; clear hB
                refine wp_region_still_tail 7 (by kernel_rfl) (by kernel_rfl) ?_
                simp only [List.take_succ_cons, List.take_zero, List.drop_succ_cons, List.drop_zero]
                repeat still_step
                refine wpStill_nil ?_
                clear t1 t2 t3 t4 t5 t6 t7
                go_wp2_with (refine wpList_copyK rfl (.tmp 57) (.tmp 60) 25 25 rfl 45 2 Tryd.underlying25 sizeRPair _ _ _ _ _ _ (by rfl) (by rfl) g2 ((gk + 1) * 2) (ps.length - gk) cur 45 HH.out (flP (ps.drop gk)) (by show _ = min _ _; omega) HDL.out (fun h => absurd h (by omega)) (by rw [HDL.out, K3.out]; omega) (flP_one _) ?_; intro w3 hh3 hg3 hs3; have HH3 := Lib.hid (show w3.heap[g2]? = some (.cells (mvd cur.toList ps gk).toArray 45 (0, 0)) from hh3); have HG3 := Lib.hid hg3; obtain ⟨u, v, r3, hpr⟩ := HPAR.out; obtain ⟨e0, e1, e2, e3⟩ := cells_at2 HH3.out hpr (flP_take_length (by omega)); clear hh3 hg3 hs3 hpr)
                go_roundg cnt1
                case measure => omega
                case rel =>
                  have hlc := K3.out
                  obtain ⟨r1, r2, r3, r4⟩ := ref_rel (x := x) (c := c) HB.out HG1.out HGR.out HOB.out HG3.out hbase hblt hr HRG1.out HH3.out (by rw [HML.out, Array.length_toList (xs := cur), K3.out]) (by omega) k1 (by unfold maxLen; omega) HSET.out
                  have hcpE : cp = gk + 1 := by have := HBB.out; omega
                  rw [hcpE] at r4
                  refine ⟨r1, r2, _, ps.take gk ++ (x, c) :: ps.drop gk, r3, by simp; omega, ?_, r4⟩
                  have hins := HCO.out.ins (x := x) HPX.out (by simp [HLX.out]) (ok' := fun y => !(left (kl y) && !(kl y).sameKey (.int .i64 x))) (fun y => by simp only [sk]; by_cases e : y = x <;> simp [e, HLX.out]) (a := gk) (by omega) (fun p hp0 hp => ?_) (fun i p hi hp => ?_)
                  · rw [← HCX.out] at hins; exact hins
                  · have h1 := HEX.out (by omega)
                    have e1 : p = (pk1 ps (gk - 1), pk2 ps (gk - 1)) := by
                      simp [pk1, pk2, hp]
                    rw [e1, ← HCX.out]; exact h1
                  · have hil := (List.getElem?_eq_some_iff.1 hp).1
                    have h1 := HBF.out i hi hil
                    have e1 : p = (pk1 ps i, pk2 ps i) := by simp [pk1, pk2, hp]
                    rw [e1, ← HCX.out]; exact h1
              · have t1 : IntKind.i64.wrap ((gk : Int) + 1) = (gk : Int) + 1 := IntWalk.i64_in _ (by omega)
                have t2 : ((gk : Int) + 1).toNat = gk + 1 := by omega
                have t3 : 0 ≤ (gk : Int) + 1 := by omega
                have t4 : (gk : Int) + 1 ≤ (ps.length : Int) + 1 := by omega
                have t5 : (gk : Int) ≤ (ps.length : Int) + 1 := by omega
                have t6 : ¬ cp = gk + 1 := by omega
                have t7 : ¬ cp = gk := by omega
                refine wp_region_still_tail 7 (by kernel_rfl) (by kernel_rfl) ?_
                simp only [List.take_succ_cons, List.take_zero, List.drop_succ_cons, List.drop_zero]
                repeat still_step
                refine wpStill_nil ?_
                clear t1 t2 t3 t4 t5 t6 t7
                go_wp2_with (refine wpList_copyK rfl (.tmp 57) (.tmp 60) 25 25 rfl 45 2 Tryd.underlying25 sizeRPair _ _ _ _ _ _ (by rfl) (by rfl) g2 ((gk + 1) * 2) (ps.length - gk) cur 45 HH.out (flP (ps.drop gk)) (by show _ = min _ _; omega) HDL.out (fun h => absurd h (by omega)) (by rw [HDL.out, K3.out]; omega) (flP_one _) ?_; intro w3 hh3 hg3 hs3; have HH3 := Lib.hid (show w3.heap[g2]? = some (.cells (mvd cur.toList ps gk).toArray 45 (0, 0)) from hh3); have HG3 := Lib.hid hg3; obtain ⟨u, v, r3, hpr⟩ := HPAR.out; obtain ⟨e0, e1, e2, e3⟩ := cells_at2 HH3.out hpr (flP_take_length (by omega)); clear hh3 hg3 hs3 hpr)
                go_roundg cnt1
                case measure => omega
                case rel =>
                  have hlc := K3.out
                  obtain ⟨r1, r2, r3, r4⟩ := ref_rel (x := x) (c := c) HB.out HG1.out HGR.out HOB.out HG3.out hbase hblt hr HRG1.out HH3.out (by rw [HML.out, Array.length_toList (xs := cur), K3.out]) (by omega) k1 (by unfold maxLen; omega) HSET.out
                  refine ⟨r1, r2, _, ps.take gk ++ (x, c) :: ps.drop gk, r3, by simp; omega, ?_, r4⟩
                  have hins := HCO.out.ins (x := x) HPX.out (by simp [HLX.out]) (ok' := fun y => !(left (kl y) && !(kl y).sameKey (.int .i64 x))) (fun y => by simp only [sk]; by_cases e : y = x <;> simp [e, HLX.out]) (a := gk) (by omega) (fun p hp0 hp => ?_) (fun i p hi hp => ?_)
                  · rw [← HCX.out] at hins; exact hins
                  · have h1 := HEX.out (by omega)
                    have e1 : p = (pk1 ps (gk - 1), pk2 ps (gk - 1)) := by
                      simp [pk1, pk2, hp]
                    rw [e1, ← HCX.out]; exact h1
                  · have hil := (List.getElem?_eq_some_iff.1 hp).1
                    have h1 := HBF.out i hi hil
                    have e1 : p = (pk1 ps i, pk2 ps i) := by simp [pk1, pk2, hp]
                    rw [e1, ← HCX.out]; exact h1
end Go.Proofs.YtnefldamfhockaaDoor
