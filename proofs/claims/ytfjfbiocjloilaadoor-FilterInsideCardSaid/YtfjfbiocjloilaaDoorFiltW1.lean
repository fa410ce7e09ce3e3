/-
  What is proved here: the document's signs (11.2): a text cut into its signs.
-/
import Derived.Test.YtfjfbiocjloilaaDoorFiltNum
import Derived.Test.YtfjfbiocjloilaaDoorLate2
import Derived.BigQuiet
import Derived.Deep.QuietTactic
namespace Go.Proofs.YtfjfbiocjloilaaDoor
open Go.RowKit Go.Sort

def flT (ts : List Tok) : List Value := ts.flatMap fun t => [.string t.1, .int .i64 t.2]
theorem flT_length : ∀ ts : List Tok, (flT ts).length = ts.length * 2
  | [] => rfl
  | t :: ts => by
    show ([Value.string t.1, .int .i64 t.2] ++ flT ts).length = _
    rw [List.length_append, flT_length ts]; simp; omega
theorem flT_snoc (ts : List Tok) (t : Tok) : flT (ts ++ [t]) = flT ts ++ [.string t.1, .int .i64 t.2] := by simp [flT]
theorem wordEnd_at {s : ByteArray} {i : Nat} (hi : i ≤ s.size) (hstop : ∀ h : i < s.size, isSep s[i] = true) : ∀ n j, j + n = i → (∀ k (_ : j ≤ k) (hk : k < i), isSep (s[k]'(by omega)) = false) → wordEnd s (s.size - j) j = i
  | 0, j, hj, _ => by
    obtain rfl : j = i := by omega
    rcases Nat.lt_or_ge j s.size with h | h
    · exact wordEnd_stop h (hstop h)
    · exact wordEnd_end h
  | n + 1, j, hj, hall => by
    rw [wordEnd_step (by omega) (hall j (Nat.le_refl _) (by omega))]
    exact wordEnd_at hi hstop n (j + 1) (by omega) (fun k h1 h2 => hall k (by omega) h2)
theorem infoSign : (Tryd.prog.info? 65).map (fun i => (i.zero, i.size, i.bytes)) = some (some (.agg #[.string ⟨#[]⟩, .int .i64 0]), 2, 24) := by kernel_rfl
/-- Where the parser's block stands while signs are laid. -/
def Cut (w : World) (P : Nat) (s : ByteArray) (done : List Tok) (W : World) : Prop :=
  ∃ v, W.heap[P]? = some (.cells #[v, .int .i64 s.size, .int .i64 0, .int .i64 (-1), .int .i64 0] 44 (0, 0)) ∧ W.ownsRow (P + 1) 65 2 v done.length (flT done) ∧ Below w.heap.size w W ∧ w.heap.size ≤ P
def SignsP (w : World) (s : ByteArray) (e : Ending) (w' : World) : Prop := ∃ P, e = .returned (.pointer (some ⟨P, 0, none⟩)) ∧ Cut w P s (toks s) w'
theorem index_is (c : UInt8) : Lib.indexByte [40, 41] c = if c = 40 then 0 else if c = 41 then 1 else -1 := by
  by_cases h1 : c = 40
  · subst h1; decide
  · by_cases h2 : c = 41
    · subst h2; decide
    · have e1 : ((40 : UInt8) == c) = false := by simpa using fun h => h1 h.symm
      have e2 : ((41 : UInt8) == c) = false := by simpa using fun h => h2 h.symm
      rw [if_neg h1, if_neg h2]
      simp [Lib.indexByte, e1, e2]
theorem block5 {W : World} {b : Nat} {x y z u v : Value} {t : TypeId} (h : W.heap[b]? = some (.cells #[x, y, z, u, v] t (0, 0))) :
    W.cell? ⟨b, 0, none⟩ = some x ∧ W.cell? ⟨b, 1, none⟩ = some y ∧ W.cell? ⟨b, 2, none⟩ = some z ∧ W.cell? ⟨b, 3, none⟩ = some u ∧ W.cell? ⟨b, 4, none⟩ = some v ∧
    W.frozen? ⟨b, 0, none⟩ = false ∧ W.frozen? ⟨b, 1, none⟩ = false ∧ W.frozen? ⟨b, 2, none⟩ = false ∧ W.frozen? ⟨b, 3, none⟩ = false ∧ W.frozen? ⟨b, 4, none⟩ = false := by
  refine ⟨?_, ?_, ?_, ?_, ?_, ?_, ?_, ?_, ?_, ?_⟩ <;> simp [World.cell?, World.frozen?, h]
theorem block5_set {W : World} {b : Nat} {x y z u v x' : Value} {t : TypeId} (h : W.heap[b]? = some (.cells #[x, y, z, u, v] t (0, 0))) :
    (W.setCell ⟨b, 0, none⟩ x').heap[b]? = some (.cells #[x', y, z, u, v] t (0, 0)) := by
  simp [World.setCell, Array.getElem?_modify, h]
theorem extract_one {s : ByteArray} {k : Nat} {c : UInt8} (hk : k < s.size) (hc : s[k] = c) : s.extract k (k + 1) = ⟨#[c]⟩ := by
  rw [bytes_ext]
  subst hc
  simp only [ByteArray.data_extract, Array.toList_extract]
  rw [List.extract_eq_take_drop]
  have h1 : k < s.data.toList.length := by simpa using hk
  rw [show k + 1 - k = 1 by omega, List.drop_eq_getElem_cons h1]
  simp
  rfl
/-- Before place k. -/
def SigR (s : ByteArray) (k : Nat) (wd : Value) (done : List Tok) : Prop :=
  (wd = .int .i64 (-1) ∧ done ++ toksAt s k = toks s) ∨
  ∃ j : Nat, wd = .int .i64 j ∧ j < k ∧ k ≤ s.size ∧ done ++ toksAt s j = toks s ∧ ∀ q (_ : j ≤ q) (hq : q < k) (hs : q < s.size), isSep s[q] = false

set_option maxHeartbeats 2000000 in
set_option maxRecDepth 100000 in
theorem signs_any (s : ByteArray) (w : World) (hs : s.size ≤ 100000) (h0 : w.cell? ⟨1, 0, none⟩ = some (.int .i64 0)) (h1 : w.cell? ⟨1, 1, none⟩ = some (.int .i64 (-1))) :
    Calls Tryd.prog 10 #[.string s, .string ⟨#[40, 41]⟩] w (SignsP w s) := by
  go_enter Tryd.func10, Tryd.ntmps10
  go_wp2_with fail
  go_loopg [6, 7] (s.size + 1) (fun g wd i W => Below w.heap.size w W ∧ ∃ (k : Nat) (done : List Tok) (v : Value), k + g = s.size + 1 ∧ i = .int .i64 k ∧ done.length ≤ 2 * k ∧
      W.heap[w.heap.size]? = some (.cells #[v, .int .i64 s.size, .int .i64 0, .int .i64 (-1), .int .i64 0] 44 (0, 0)) ∧
      W.ownsRow (w.heap.size + 1) 65 2 v done.length (flT done) ∧ SigR s k wd done)
  case atStart =>
    refine ⟨(Below.refl _ _).alloc (Nat.le_refl _) _, 0, [], .slice none 0 0, by omega, rfl, Nat.le_refl _, heap_alloc_new _ _, World.ownsRow_nil _ _ _ _, .inl ⟨rfl, rfl⟩⟩
  case round =>
    obtain ⟨hb, k, done, v, hk, rfl, hdl, hP, hown, hR⟩ := hrel
    by_cases hlt : k < s.size
    · obtain ⟨n, rfl⟩ : ∃ n, gk = n + 1 := ⟨gk - 1, by omega⟩
      obtain ⟨k0, k1, k2, k3, k4, z0, z1, z2, z3, z4⟩ := block5 hP
      have HB := Lib.hid hb; have HP := Lib.hid hP; have HR := Lib.hid hR; have HO := Lib.hid hown
      clear hb hP
      by_cases hc : s[k] = 32
      · have hcn : ((s[k]'hlt).toNat : Int) = 32 := by rw [hc]; rfl
        have hci : Lib.indexByte [40, 41] s[k] = -1 := by rw [hc]; rfl
        have hce : toksAt s k = toksAt s (k + 1) := toksAt_blank hlt hc
        have hcs : isSep s[k] = true := by rw [hc]; rfl
        have HS := Lib.hid hcs; have HE := Lib.hid hce; have HI := Lib.hid hci
        clear hc hcs hce hci hown
        have hc32 : Lib.indexByte [40, 41] 32 = -1 := rfl
        rcases hR with ⟨rfl, hd⟩ | ⟨j, rfl, hjk, hks, hd, hq⟩
        · have HD := Lib.hid hd
          clear hd
          go_wp2_with (go_at_call 16; refine (Tryd.strings_IndexByte _ _ _).mono ?_; rintro e w' ⟨rfl, rfl⟩)
          go_roundg n
          case measure => omega
          case rel => exact ⟨HB.out, k + 1, done, v, by omega, by go_num, by omega, HP.out, HO.out, .inl ⟨rfl, by rw [← HE.out]; exact HD.out⟩⟩
        · have HD := Lib.hid hd; have HQ := Lib.hid hq
          clear hd hq
          go_wp2_with (go_at_call 16; refine (Tryd.strings_IndexByte _ _ _).mono ?_; rintro e w' ⟨rfl, rfl⟩)
          refine wp_region_late (fun W => W.cell? ⟨w.heap.size, 0, none⟩ = some v) [12] rfl (by simpa using k0) (fun hHeld => ?_)
          refine wpAnyT_takePD (i := 0) (d := 43) (oi := _) (v := ?zv1) rfl rfl (by kernel_rfl) (fun _ _ _ h => h) (Or.inl ⟨by rfl, ?zy1⟩) (by assumption) ?zr1
          case zy1 => (intro w hSw; (try dsimp only at hSw); go_split_ands; go_simp; (try rw [if_pos (by omega)]); (try go_simp); try with_reducible rfl)
          simp only [List.setIfInBounds_toArray, List.set_cons_zero, List.set_cons_succ]
          refine wpAnyT_takePD (i := 1) (d := 44) (oi := _) (v := ?zv2) rfl rfl (by kernel_rfl) (fun _ _ _ h => h) (Or.inl ⟨by rfl, ?zy2⟩) (by assumption) ?zr2
          case zy2 => (intro w hSw; (try dsimp only at hSw); go_split_ands; go_simp; (try rw [if_pos (by omega)]); (try go_simp); try with_reducible rfl)
          simp only [List.setIfInBounds_toArray, List.set_cons_zero, List.set_cons_succ]
          refine wpAnyT_takePD (i := 2) (d := 45) (oi := _) (v := ?zv3) rfl rfl (by kernel_rfl) (fun _ _ _ h => h) (Or.inl ⟨by rfl, ?zy3⟩) (by assumption) ?zr3
          case zy3 => (intro w hSw; (try dsimp only at hSw); go_split_ands; go_simp; (try rw [if_pos (by omega)]); (try go_simp); try with_reducible rfl)
          simp only [List.setIfInBounds_toArray, List.set_cons_zero, List.set_cons_succ]
          refine wpAnyT_takePD (i := 3) (d := 46) (oi := _) (v := ?zv4) rfl rfl (by kernel_rfl) (fun _ _ _ h => h) (Or.inl ⟨by rfl, ?zy4⟩) (by assumption) ?zr4
          case zy4 => (intro w hSw; (try dsimp only at hSw); go_split_ands; go_simp; (try rw [if_pos (by omega)]); (try go_simp); try with_reducible rfl)
          simp only [List.setIfInBounds_toArray, List.set_cons_zero, List.set_cons_succ]
          refine wpAnyT_takeD (i := 4) (d := 47) (oi := _) (v := ?zv5) rfl rfl (by kernel_rfl) (fun _ _ _ h => h) (Or.inl ⟨by rfl, ?zy5⟩) (by assumption) ?zr5
          case zy5 => (intro w hSw; (try dsimp only at hSw); go_split_ands; go_simp; (try rw [if_pos (by omega)]); (try go_simp); try with_reducible rfl)
          simp only [List.setIfInBounds_toArray, List.set_cons_zero, List.set_cons_succ]
          refine wpAnyT_takePD (i := 5) (d := 48) (oi := _) (v := ?zv6) rfl rfl (by kernel_rfl) (fun _ _ _ h => h) (Or.inl ⟨by rfl, ?zy6⟩) (by assumption) ?zr6
          case zy6 => (intro w hSw; (try dsimp only at hSw); go_split_ands; go_simp; (try rw [if_pos (by omega)]); (try go_simp); try with_reducible rfl)
          simp only [List.setIfInBounds_toArray, List.set_cons_zero, List.set_cons_succ]
          refine wpAnyT_takePD (i := 6) (d := 49) (oi := _) (v := ?zv7) rfl rfl (by kernel_rfl) (fun _ _ _ h => h) (Or.inl ⟨by rfl, ?zy7⟩) (by assumption) ?zr7
          case zy7 => (intro w hSw; (try dsimp only at hSw); go_split_ands; go_simp; (try rw [if_pos (by omega)]); (try go_simp); try with_reducible rfl)
          simp only [List.setIfInBounds_toArray, List.set_cons_zero, List.set_cons_succ]
          refine wpAnyT_takePD (i := 7) (d := 50) (oi := _) (v := ?zv8) rfl rfl (by kernel_rfl) (fun _ _ _ h => h) (Or.inl ⟨by rfl, ?zy8⟩) (by assumption) ?zr8
          case zy8 => (intro w hSw; (try dsimp only at hSw); go_split_ands; go_simp; (try rw [if_pos (by omega)]); (try go_simp); try with_reducible rfl)
          simp only [List.setIfInBounds_toArray, List.set_cons_zero, List.set_cons_succ]
          refine wpAnyT_takePD (i := 8) (d := 51) (oi := _) (v := ?zv9) rfl rfl (by kernel_rfl) (fun _ _ _ h => h) (Or.inl ⟨by rfl, ?zy9⟩) (by assumption) ?zr9
          case zy9 => (intro w hSw; (try dsimp only at hSw); go_split_ands; go_simp; (try rw [if_pos (by omega)]); (try go_simp); try with_reducible rfl)
          simp only [List.setIfInBounds_toArray, List.set_cons_zero, List.set_cons_succ]
          refine wpAnyT_takePD (i := 9) (d := 52) (oi := _) (v := ?zv10) rfl rfl (by kernel_rfl) (fun _ _ _ h => h) (Or.inl ⟨by rfl, ?zy10⟩) (by assumption) ?zr10
          case zy10 => (intro w hSw; (try dsimp only at hSw); go_split_ands; go_simp; (try rw [if_pos (by omega)]); (try go_simp); try with_reducible rfl)
          simp only [List.setIfInBounds_toArray, List.set_cons_zero, List.set_cons_succ]
          refine wpAnyT_takePD (i := 10) (d := 53) (oi := _) (v := ?zv11) rfl rfl (by kernel_rfl) (fun _ _ _ h => h) (Or.inl ⟨by rfl, ?zy11⟩) (by assumption) ?zr11
          case zy11 => (intro w hSw; (try dsimp only at hSw); go_split_ands; go_simp; (try rw [if_pos (by omega)]); (try go_simp); try with_reducible rfl)
          simp only [List.setIfInBounds_toArray, List.set_cons_zero, List.set_cons_succ]
          refine wpAnyT_ready (rs := [11]) (by kernel_rfl) (by simp) (AllReadyT.cons rfl (fun K2 hK2 => ?_) AllReadyT.nil)
          go_simp
          refine hK2.out _ _ ?_ (fun _ => ?_)
          · exact (World.cell?_alloc_some _ _ _ (by rw [k0]; rfl)).trans k0
          refine wpAnyT_tail 12 (by simp) rfl (by simp) (by kernel_rfl) ?_
          simp only [List.drop_succ_cons, List.drop_zero]
          have hsz : w.heap.size + 1 ≤ w'.heap.size := (Array.getElem?_eq_some_iff.1 HP.out).1
          have hown := HO.out
          go_wp2_with (at_builtin; refine wpList_append_fresh rfl _ _ 42 rfl (w.heap.size + 1) 65 (.agg #[.string ⟨#[]⟩, .int .i64 0]) 2 24 Tryd.underlying42 infoSign rfl (by decide) v _ _ rfl w' hown 1 [.string (s.extract j k), .int .i64 j] 1 rfl rfl rfl (by simp [Value.oneCell']) (by decide) (by omega) (by omega) hsz ?_; intro g cp w6 ho hgr hat hlt6; have hP6 := Lib.hid ((hgr.block _ hsz (fun h => by have := (hown.lt _ h.symm).1; omega)).trans HP.out); obtain ⟨_, _, _, _, _, z0, _, _, _, _⟩ := block5 hP6.out)
          go_roundg n
          case measure => omega
          case rel =>
            have hd' : (done ++ [(s.extract j k, j)]).length = done.length + 1 := by simp
            have hwe : wordEnd s (s.size - j) j = k := wordEnd_at hks (fun _ => HS.out) (k - j) j (by omega) (fun q h1 h2 => HQ.out q h1 h2 (by omega))
            have htk := toksAt_word (s := s) (i := j) (by omega) (HQ.out j (Nat.le_refl _) hjk (by omega))
            rw [hwe] at htk
            refine ⟨((HB.out.grown hgr (by omega) (fun x hx => by have := (HO.out.lt _ hx).1; omega))).setCell (Nat.le_refl _) _, k + 1, done ++ [(s.extract j k, j)], _, by omega, by go_num, by rw [hd']; omega, block5_set hP6.out, ?_, .inl ⟨rfl, ?_⟩⟩
            · rw [hd', flT_snoc]; exact ownsRow_setCell_below ho (Nat.lt_succ_self _) _
            · rw [List.append_assoc]
              show done ++ ((s.extract j k, j) :: toksAt s (k + 1)) = _
              rw [← HE.out, ← htk]; exact HD.out
      · by_cases hm : s[k] = 40 ∨ s[k] = 41
        · have hm' := hm; rcases hm' with hc | hc
          · have hcn : ((s[k]'hlt).toNat : Int) = 40 := by rw [hc]; rfl
            have hce : toksAt s k = (s.extract k (k + 1), k) :: toksAt s (k + 1) := toksAt_mark hlt (by simp [hc])
            have hex : s.extract k (k + 1) = Utf8.encode 40 := (extract_one hlt hc).trans (by decide +kernel)
            have hcs : isSep s[k] = true := by rw [hc]; rfl
            rw [hex] at hce
            have HS := Lib.hid hcs; have HE := Lib.hid hce
            clear hc hcs hce hex hown hm
            have hcI : Lib.indexByte [40, 41] 40 = 0 := rfl
            rcases hR with ⟨rfl, hd⟩ | ⟨j, rfl, hjk, hks, hd, hq⟩
            · have HD := Lib.hid hd
              clear hd
              have hown := HO.out
              have hsz : w.heap.size + 1 ≤ wr.heap.size := (Array.getElem?_eq_some_iff.1 HP.out).1
              go_wp2_with (first
                | (go_at_call 16; refine (Tryd.strings_IndexByte _ _ _).mono ?_; rintro e w' ⟨rfl, rfl⟩)
                | (at_builtin; refine wpList_append_fresh rfl _ _ 42 rfl (w.heap.size + 1) 65 (.agg #[.string ⟨#[]⟩, .int .i64 0]) 2 24 Tryd.underlying42 infoSign rfl (by decide) v _ _ rfl w' hown 1 [.string (Utf8.encode 40), .int .i64 k] 0 rfl (by first | rfl | (rw [World.size_setCell]; rfl)) rfl (by simp [Value.oneCell']) (by decide) (by omega) (by omega) hsz ?_; intro g1 cp1 w1 ho1 hgr1 hat1 hlt1; have hP1 := Lib.hid ((hgr1.block _ hsz (fun h => by have := (hown.lt _ h.symm).1; omega)).trans HP.out); obtain ⟨y01, _, _, _, _, z01, _, _, _, _⟩ := block5 hP1.out))
              go_roundg n
              case measure => omega
              case rel =>
                have hd' : (done ++ [(Utf8.encode 40, k)]).length = done.length + 1 := by simp
                refine ⟨((HB.out.grown hgr1 (by omega) (fun x hx => by have := (HO.out.lt _ hx).1; omega))).setCell (Nat.le_refl _) _, k + 1, done ++ [(Utf8.encode 40, k)], _, by omega, by go_num, by rw [hd']; omega, block5_set hP1.out, ?_, .inl ⟨rfl, ?_⟩⟩
                · rw [hd', flT_snoc]; exact ownsRow_setCell_below ho1 (Nat.lt_succ_self _) _
                · rw [List.append_assoc]
                  show done ++ ((Utf8.encode 40, k) :: toksAt s (k + 1)) = _
                  rw [← HE.out]; exact HD.out
            · have HD := Lib.hid hd; have HQ := Lib.hid hq
              clear hd hq
              go_wp2_with (go_at_call 16; refine (Tryd.strings_IndexByte _ _ _).mono ?_; rintro e w' ⟨rfl, rfl⟩)
              refine wp_region_late (fun W => W.cell? ⟨w.heap.size, 0, none⟩ = some v) [12] rfl (by simpa using k0) (fun hHeld => ?_)
              refine wpAnyT_takePD (i := 0) (d := 43) (oi := _) (v := ?zv13) rfl rfl (by kernel_rfl) (fun _ _ _ h => h) (Or.inl ⟨by rfl, ?zy13⟩) (by assumption) ?zr13
              case zy13 => (intro w hSw; (try dsimp only at hSw); go_split_ands; go_simp; (try rw [if_pos (by omega)]); (try go_simp); try with_reducible rfl)
              simp only [List.setIfInBounds_toArray, List.set_cons_zero, List.set_cons_succ]
              refine wpAnyT_takePD (i := 1) (d := 44) (oi := _) (v := ?zv14) rfl rfl (by kernel_rfl) (fun _ _ _ h => h) (Or.inl ⟨by rfl, ?zy14⟩) (by assumption) ?zr14
              case zy14 => (intro w hSw; (try dsimp only at hSw); go_split_ands; go_simp; (try rw [if_pos (by omega)]); (try go_simp); try with_reducible rfl)
              simp only [List.setIfInBounds_toArray, List.set_cons_zero, List.set_cons_succ]
              refine wpAnyT_takePD (i := 2) (d := 45) (oi := _) (v := ?zv15) rfl rfl (by kernel_rfl) (fun _ _ _ h => h) (Or.inl ⟨by rfl, ?zy15⟩) (by assumption) ?zr15
              case zy15 => (intro w hSw; (try dsimp only at hSw); go_split_ands; go_simp; (try rw [if_pos (by omega)]); (try go_simp); try with_reducible rfl)
              simp only [List.setIfInBounds_toArray, List.set_cons_zero, List.set_cons_succ]
              refine wpAnyT_takePD (i := 3) (d := 46) (oi := _) (v := ?zv16) rfl rfl (by kernel_rfl) (fun _ _ _ h => h) (Or.inl ⟨by rfl, ?zy16⟩) (by assumption) ?zr16
              case zy16 => (intro w hSw; (try dsimp only at hSw); go_split_ands; go_simp; (try rw [if_pos (by omega)]); (try go_simp); try with_reducible rfl)
              simp only [List.setIfInBounds_toArray, List.set_cons_zero, List.set_cons_succ]
              refine wpAnyT_takeD (i := 4) (d := 47) (oi := _) (v := ?zv17) rfl rfl (by kernel_rfl) (fun _ _ _ h => h) (Or.inl ⟨by rfl, ?zy17⟩) (by assumption) ?zr17
              case zy17 => (intro w hSw; (try dsimp only at hSw); go_split_ands; go_simp; (try rw [if_pos (by omega)]); (try go_simp); try with_reducible rfl)
              simp only [List.setIfInBounds_toArray, List.set_cons_zero, List.set_cons_succ]
              refine wpAnyT_takePD (i := 5) (d := 48) (oi := _) (v := ?zv18) rfl rfl (by kernel_rfl) (fun _ _ _ h => h) (Or.inl ⟨by rfl, ?zy18⟩) (by assumption) ?zr18
              case zy18 => (intro w hSw; (try dsimp only at hSw); go_split_ands; go_simp; (try rw [if_pos (by omega)]); (try go_simp); try with_reducible rfl)
              simp only [List.setIfInBounds_toArray, List.set_cons_zero, List.set_cons_succ]
              refine wpAnyT_takePD (i := 6) (d := 49) (oi := _) (v := ?zv19) rfl rfl (by kernel_rfl) (fun _ _ _ h => h) (Or.inl ⟨by rfl, ?zy19⟩) (by assumption) ?zr19
              case zy19 => (intro w hSw; (try dsimp only at hSw); go_split_ands; go_simp; (try rw [if_pos (by omega)]); (try go_simp); try with_reducible rfl)
              simp only [List.setIfInBounds_toArray, List.set_cons_zero, List.set_cons_succ]
              refine wpAnyT_takePD (i := 7) (d := 50) (oi := _) (v := ?zv20) rfl rfl (by kernel_rfl) (fun _ _ _ h => h) (Or.inl ⟨by rfl, ?zy20⟩) (by assumption) ?zr20
              case zy20 => (intro w hSw; (try dsimp only at hSw); go_split_ands; go_simp; (try rw [if_pos (by omega)]); (try go_simp); try with_reducible rfl)
              simp only [List.setIfInBounds_toArray, List.set_cons_zero, List.set_cons_succ]
              refine wpAnyT_takePD (i := 8) (d := 51) (oi := _) (v := ?zv21) rfl rfl (by kernel_rfl) (fun _ _ _ h => h) (Or.inl ⟨by rfl, ?zy21⟩) (by assumption) ?zr21
              case zy21 => (intro w hSw; (try dsimp only at hSw); go_split_ands; go_simp; (try rw [if_pos (by omega)]); (try go_simp); try with_reducible rfl)
              simp only [List.setIfInBounds_toArray, List.set_cons_zero, List.set_cons_succ]
              refine wpAnyT_takePD (i := 9) (d := 52) (oi := _) (v := ?zv22) rfl rfl (by kernel_rfl) (fun _ _ _ h => h) (Or.inl ⟨by rfl, ?zy22⟩) (by assumption) ?zr22
              case zy22 => (intro w hSw; (try dsimp only at hSw); go_split_ands; go_simp; (try rw [if_pos (by omega)]); (try go_simp); try with_reducible rfl)
              simp only [List.setIfInBounds_toArray, List.set_cons_zero, List.set_cons_succ]
              refine wpAnyT_takePD (i := 10) (d := 53) (oi := _) (v := ?zv23) rfl rfl (by kernel_rfl) (fun _ _ _ h => h) (Or.inl ⟨by rfl, ?zy23⟩) (by assumption) ?zr23
              case zy23 => (intro w hSw; (try dsimp only at hSw); go_split_ands; go_simp; (try rw [if_pos (by omega)]); (try go_simp); try with_reducible rfl)
              simp only [List.setIfInBounds_toArray, List.set_cons_zero, List.set_cons_succ]
              refine wpAnyT_ready (rs := [11]) (by kernel_rfl) (by simp) (AllReadyT.cons rfl (fun K2 hK2 => ?_) AllReadyT.nil)
              go_simp
              refine hK2.out _ _ ?_ (fun _ => ?_)
              · exact (World.cell?_alloc_some _ _ _ (by rw [k0]; rfl)).trans k0
              refine wpAnyT_tail 12 (by simp) rfl (by simp) (by kernel_rfl) ?_
              simp only [List.drop_succ_cons, List.drop_zero]
              have hsz : w.heap.size + 1 ≤ w'.heap.size := (Array.getElem?_eq_some_iff.1 HP.out).1
              have hown := HO.out
              go_wp2_with (first
                | (at_builtin; refine wpList_append_fresh rfl _ _ 42 rfl (w.heap.size + 1) 65 (.agg #[.string ⟨#[]⟩, .int .i64 0]) 2 24 Tryd.underlying42 infoSign rfl (by decide) (.slice (some ⟨g1, 0, none⟩) (done.length + 1) cp1) _ _ rfl (w1.setCell ⟨w.heap.size, 0, none⟩ (.slice (some ⟨g1, 0, none⟩) (done.length + 1) cp1)) hown2 1 [.string (Utf8.encode 40), .int .i64 k] 0 rfl (by first | rfl | (rw [World.size_setCell]; rfl)) rfl (by simp [Value.oneCell']) (by decide) (by omega) (by omega) hsz2 ?_; intro g3 cp3 w3 ho3 hgr3 hat3 hlt3; have hP3 := Lib.hid ((hgr3.block _ hsz2 (fun h => by have := (hown2.lt _ h.symm).1; omega)).trans hP2.out); obtain ⟨y03, _, _, _, _, z03, _, _, _, _⟩ := block5 hP3.out)
                | (at_builtin; refine wpList_append_fresh rfl _ _ 42 rfl (w.heap.size + 1) 65 (.agg #[.string ⟨#[]⟩, .int .i64 0]) 2 24 Tryd.underlying42 infoSign rfl (by decide) v _ _ rfl w' hown 1 [.string (s.extract j k), .int .i64 j] 1 rfl (by first | rfl | (rw [World.size_setCell]; rfl)) rfl (by simp [Value.oneCell']) (by decide) (by omega) (by omega) hsz ?_; intro g1 cp1 w1 ho1 hgr1 hat1 hlt1; have hP1 := Lib.hid ((hgr1.block _ hsz (fun h => by have := (hown.lt _ h.symm).1; omega)).trans HP.out); obtain ⟨y01, _, _, _, _, z01, _, _, _, _⟩ := block5 hP1.out; have hP2 := Lib.hid (block5_set (x' := .slice (some ⟨g1, 0, none⟩) (done.length + 1) cp1) hP1.out); obtain ⟨y02, _, _, _, _, z02, _, _, _, _⟩ := block5 hP2.out; have hown2 := ownsRow_setCell_below (a := ⟨w.heap.size, 0, none⟩) ho1 (Nat.lt_succ_self _) (.slice (some ⟨g1, 0, none⟩) (done.length + 1) cp1); have hsz2 : w.heap.size + 1 ≤ (w1.setCell ⟨w.heap.size, 0, none⟩ (.slice (some ⟨g1, 0, none⟩) (done.length + 1) cp1)).heap.size := (Array.getElem?_eq_some_iff.1 hP2.out).1))
              go_roundg n
              case measure => omega
              case rel =>
                have hwe : wordEnd s (s.size - j) j = k := wordEnd_at hks (fun _ => HS.out) (k - j) j (by omega) (fun q h1 h2 => HQ.out q h1 h2 (by omega))
                have htk := toksAt_word (s := s) (i := j) (by omega) (HQ.out j (Nat.le_refl _) hjk (by omega))
                rw [hwe] at htk
                have hB2 := (HB.out.grown hgr1 (by omega) (fun x hx => by have := (HO.out.lt _ hx).1; omega)).setCell (p := ⟨w.heap.size, 0, none⟩) (Nat.le_refl _) (.slice (some ⟨g1, 0, none⟩) (done.length + 1) cp1)
                have hd' : (done ++ [(s.extract j k, j), (Utf8.encode 40, k)]).length = done.length + 1 + 1 := by simp
                refine ⟨((hB2.grown hgr3 (by omega) (fun x hx => by have := (hown2.lt _ hx).1; omega))).setCell (Nat.le_refl _) _, k + 1, done ++ [(s.extract j k, j), (Utf8.encode 40, k)], _, by omega, by go_num, by rw [hd']; omega, block5_set hP3.out, ?_, .inl ⟨rfl, ?_⟩⟩
                · have hfl : flT (done ++ [(s.extract j k, j), (Utf8.encode 40, k)]) = flT done ++ [.string (s.extract j k), .int .i64 j] ++ [.string (Utf8.encode 40), .int .i64 k] := by simp [flT]
                  rw [hd', hfl]; exact ownsRow_setCell_below ho3 (Nat.lt_succ_self _) _
                · rw [List.append_assoc]
                  show done ++ ((s.extract j k, j) :: (Utf8.encode 40, k) :: toksAt s (k + 1)) = _
                  rw [← HE.out, ← htk]; exact HD.out
          · have hcn : ((s[k]'hlt).toNat : Int) = 41 := by rw [hc]; rfl
            have hce : toksAt s k = (s.extract k (k + 1), k) :: toksAt s (k + 1) := toksAt_mark hlt (by simp [hc])
            have hex : s.extract k (k + 1) = Utf8.encode 41 := (extract_one hlt hc).trans (by decide +kernel)
            have hcs : isSep s[k] = true := by rw [hc]; rfl
            rw [hex] at hce
            have HS := Lib.hid hcs; have HE := Lib.hid hce
            clear hc hcs hce hex hown hm
            have hcI : Lib.indexByte [40, 41] 41 = 1 := rfl
            rcases hR with ⟨rfl, hd⟩ | ⟨j, rfl, hjk, hks, hd, hq⟩
            · have HD := Lib.hid hd
              clear hd
              have hown := HO.out
              have hsz : w.heap.size + 1 ≤ wr.heap.size := (Array.getElem?_eq_some_iff.1 HP.out).1
              go_wp2_with (first
                | (go_at_call 16; refine (Tryd.strings_IndexByte _ _ _).mono ?_; rintro e w' ⟨rfl, rfl⟩)
                | (at_builtin; refine wpList_append_fresh rfl _ _ 42 rfl (w.heap.size + 1) 65 (.agg #[.string ⟨#[]⟩, .int .i64 0]) 2 24 Tryd.underlying42 infoSign rfl (by decide) v _ _ rfl w' hown 1 [.string (Utf8.encode 41), .int .i64 k] 0 rfl (by first | rfl | (rw [World.size_setCell]; rfl)) rfl (by simp [Value.oneCell']) (by decide) (by omega) (by omega) hsz ?_; intro g1 cp1 w1 ho1 hgr1 hat1 hlt1; have hP1 := Lib.hid ((hgr1.block _ hsz (fun h => by have := (hown.lt _ h.symm).1; omega)).trans HP.out); obtain ⟨y01, _, _, _, _, z01, _, _, _, _⟩ := block5 hP1.out))
              go_roundg n
              case measure => omega
              case rel =>
                have hd' : (done ++ [(Utf8.encode 41, k)]).length = done.length + 1 := by simp
                refine ⟨((HB.out.grown hgr1 (by omega) (fun x hx => by have := (HO.out.lt _ hx).1; omega))).setCell (Nat.le_refl _) _, k + 1, done ++ [(Utf8.encode 41, k)], _, by omega, by go_num, by rw [hd']; omega, block5_set hP1.out, ?_, .inl ⟨rfl, ?_⟩⟩
                · rw [hd', flT_snoc]; exact ownsRow_setCell_below ho1 (Nat.lt_succ_self _) _
                · rw [List.append_assoc]
                  show done ++ ((Utf8.encode 41, k) :: toksAt s (k + 1)) = _
                  rw [← HE.out]; exact HD.out
            · have HD := Lib.hid hd; have HQ := Lib.hid hq
              clear hd hq
              go_wp2_with (go_at_call 16; refine (Tryd.strings_IndexByte _ _ _).mono ?_; rintro e w' ⟨rfl, rfl⟩)
              refine wp_region_late (fun W => W.cell? ⟨w.heap.size, 0, none⟩ = some v) [12] rfl (by simpa using k0) (fun hHeld => ?_)
              refine wpAnyT_takePD (i := 0) (d := 43) (oi := _) (v := ?zv25) rfl rfl (by kernel_rfl) (fun _ _ _ h => h) (Or.inl ⟨by rfl, ?zy25⟩) (by assumption) ?zr25
              case zy25 => (intro w hSw; (try dsimp only at hSw); go_split_ands; go_simp; (try rw [if_pos (by omega)]); (try go_simp); try with_reducible rfl)
              simp only [List.setIfInBounds_toArray, List.set_cons_zero, List.set_cons_succ]
              refine wpAnyT_takePD (i := 1) (d := 44) (oi := _) (v := ?zv26) rfl rfl (by kernel_rfl) (fun _ _ _ h => h) (Or.inl ⟨by rfl, ?zy26⟩) (by assumption) ?zr26
              case zy26 => (intro w hSw; (try dsimp only at hSw); go_split_ands; go_simp; (try rw [if_pos (by omega)]); (try go_simp); try with_reducible rfl)
              simp only [List.setIfInBounds_toArray, List.set_cons_zero, List.set_cons_succ]
              refine wpAnyT_takePD (i := 2) (d := 45) (oi := _) (v := ?zv27) rfl rfl (by kernel_rfl) (fun _ _ _ h => h) (Or.inl ⟨by rfl, ?zy27⟩) (by assumption) ?zr27
              case zy27 => (intro w hSw; (try dsimp only at hSw); go_split_ands; go_simp; (try rw [if_pos (by omega)]); (try go_simp); try with_reducible rfl)
              simp only [List.setIfInBounds_toArray, List.set_cons_zero, List.set_cons_succ]
              refine wpAnyT_takePD (i := 3) (d := 46) (oi := _) (v := ?zv28) rfl rfl (by kernel_rfl) (fun _ _ _ h => h) (Or.inl ⟨by rfl, ?zy28⟩) (by assumption) ?zr28
              case zy28 => (intro w hSw; (try dsimp only at hSw); go_split_ands; go_simp; (try rw [if_pos (by omega)]); (try go_simp); try with_reducible rfl)
              simp only [List.setIfInBounds_toArray, List.set_cons_zero, List.set_cons_succ]
              refine wpAnyT_takeD (i := 4) (d := 47) (oi := _) (v := ?zv29) rfl rfl (by kernel_rfl) (fun _ _ _ h => h) (Or.inl ⟨by rfl, ?zy29⟩) (by assumption) ?zr29
              case zy29 => (intro w hSw; (try dsimp only at hSw); go_split_ands; go_simp; (try rw [if_pos (by omega)]); (try go_simp); try with_reducible rfl)
              simp only [List.setIfInBounds_toArray, List.set_cons_zero, List.set_cons_succ]
              refine wpAnyT_takePD (i := 5) (d := 48) (oi := _) (v := ?zv30) rfl rfl (by kernel_rfl) (fun _ _ _ h => h) (Or.inl ⟨by rfl, ?zy30⟩) (by assumption) ?zr30
              case zy30 => (intro w hSw; (try dsimp only at hSw); go_split_ands; go_simp; (try rw [if_pos (by omega)]); (try go_simp); try with_reducible rfl)
              simp only [List.setIfInBounds_toArray, List.set_cons_zero, List.set_cons_succ]
              refine wpAnyT_takePD (i := 6) (d := 49) (oi := _) (v := ?zv31) rfl rfl (by kernel_rfl) (fun _ _ _ h => h) (Or.inl ⟨by rfl, ?zy31⟩) (by assumption) ?zr31
              case zy31 => (intro w hSw; (try dsimp only at hSw); go_split_ands; go_simp; (try rw [if_pos (by omega)]); (try go_simp); try with_reducible rfl)
              simp only [List.setIfInBounds_toArray, List.set_cons_zero, List.set_cons_succ]
              refine wpAnyT_takePD (i := 7) (d := 50) (oi := _) (v := ?zv32) rfl rfl (by kernel_rfl) (fun _ _ _ h => h) (Or.inl ⟨by rfl, ?zy32⟩) (by assumption) ?zr32
              case zy32 => (intro w hSw; (try dsimp only at hSw); go_split_ands; go_simp; (try rw [if_pos (by omega)]); (try go_simp); try with_reducible rfl)
              simp only [List.setIfInBounds_toArray, List.set_cons_zero, List.set_cons_succ]
              refine wpAnyT_takePD (i := 8) (d := 51) (oi := _) (v := ?zv33) rfl rfl (by kernel_rfl) (fun _ _ _ h => h) (Or.inl ⟨by rfl, ?zy33⟩) (by assumption) ?zr33
              case zy33 => (intro w hSw; (try dsimp only at hSw); go_split_ands; go_simp; (try rw [if_pos (by omega)]); (try go_simp); try with_reducible rfl)
              simp only [List.setIfInBounds_toArray, List.set_cons_zero, List.set_cons_succ]
              refine wpAnyT_takePD (i := 9) (d := 52) (oi := _) (v := ?zv34) rfl rfl (by kernel_rfl) (fun _ _ _ h => h) (Or.inl ⟨by rfl, ?zy34⟩) (by assumption) ?zr34
              case zy34 => (intro w hSw; (try dsimp only at hSw); go_split_ands; go_simp; (try rw [if_pos (by omega)]); (try go_simp); try with_reducible rfl)
              simp only [List.setIfInBounds_toArray, List.set_cons_zero, List.set_cons_succ]
              refine wpAnyT_takePD (i := 10) (d := 53) (oi := _) (v := ?zv35) rfl rfl (by kernel_rfl) (fun _ _ _ h => h) (Or.inl ⟨by rfl, ?zy35⟩) (by assumption) ?zr35
              case zy35 => (intro w hSw; (try dsimp only at hSw); go_split_ands; go_simp; (try rw [if_pos (by omega)]); (try go_simp); try with_reducible rfl)
              simp only [List.setIfInBounds_toArray, List.set_cons_zero, List.set_cons_succ]
              refine wpAnyT_ready (rs := [11]) (by kernel_rfl) (by simp) (AllReadyT.cons rfl (fun K2 hK2 => ?_) AllReadyT.nil)
              go_simp
              refine hK2.out _ _ ?_ (fun _ => ?_)
              · exact (World.cell?_alloc_some _ _ _ (by rw [k0]; rfl)).trans k0
              refine wpAnyT_tail 12 (by simp) rfl (by simp) (by kernel_rfl) ?_
              simp only [List.drop_succ_cons, List.drop_zero]
              have hsz : w.heap.size + 1 ≤ w'.heap.size := (Array.getElem?_eq_some_iff.1 HP.out).1
              have hown := HO.out
              go_wp2_with (first
                | (at_builtin; refine wpList_append_fresh rfl _ _ 42 rfl (w.heap.size + 1) 65 (.agg #[.string ⟨#[]⟩, .int .i64 0]) 2 24 Tryd.underlying42 infoSign rfl (by decide) (.slice (some ⟨g1, 0, none⟩) (done.length + 1) cp1) _ _ rfl (w1.setCell ⟨w.heap.size, 0, none⟩ (.slice (some ⟨g1, 0, none⟩) (done.length + 1) cp1)) hown2 1 [.string (Utf8.encode 41), .int .i64 k] 0 rfl (by first | rfl | (rw [World.size_setCell]; rfl)) rfl (by simp [Value.oneCell']) (by decide) (by omega) (by omega) hsz2 ?_; intro g3 cp3 w3 ho3 hgr3 hat3 hlt3; have hP3 := Lib.hid ((hgr3.block _ hsz2 (fun h => by have := (hown2.lt _ h.symm).1; omega)).trans hP2.out); obtain ⟨y03, _, _, _, _, z03, _, _, _, _⟩ := block5 hP3.out)
                | (at_builtin; refine wpList_append_fresh rfl _ _ 42 rfl (w.heap.size + 1) 65 (.agg #[.string ⟨#[]⟩, .int .i64 0]) 2 24 Tryd.underlying42 infoSign rfl (by decide) v _ _ rfl w' hown 1 [.string (s.extract j k), .int .i64 j] 1 rfl (by first | rfl | (rw [World.size_setCell]; rfl)) rfl (by simp [Value.oneCell']) (by decide) (by omega) (by omega) hsz ?_; intro g1 cp1 w1 ho1 hgr1 hat1 hlt1; have hP1 := Lib.hid ((hgr1.block _ hsz (fun h => by have := (hown.lt _ h.symm).1; omega)).trans HP.out); obtain ⟨y01, _, _, _, _, z01, _, _, _, _⟩ := block5 hP1.out; have hP2 := Lib.hid (block5_set (x' := .slice (some ⟨g1, 0, none⟩) (done.length + 1) cp1) hP1.out); obtain ⟨y02, _, _, _, _, z02, _, _, _, _⟩ := block5 hP2.out; have hown2 := ownsRow_setCell_below (a := ⟨w.heap.size, 0, none⟩) ho1 (Nat.lt_succ_self _) (.slice (some ⟨g1, 0, none⟩) (done.length + 1) cp1); have hsz2 : w.heap.size + 1 ≤ (w1.setCell ⟨w.heap.size, 0, none⟩ (.slice (some ⟨g1, 0, none⟩) (done.length + 1) cp1)).heap.size := (Array.getElem?_eq_some_iff.1 hP2.out).1))
              go_roundg n
              case measure => omega
              case rel =>
                have hwe : wordEnd s (s.size - j) j = k := wordEnd_at hks (fun _ => HS.out) (k - j) j (by omega) (fun q h1 h2 => HQ.out q h1 h2 (by omega))
                have htk := toksAt_word (s := s) (i := j) (by omega) (HQ.out j (Nat.le_refl _) hjk (by omega))
                rw [hwe] at htk
                have hB2 := (HB.out.grown hgr1 (by omega) (fun x hx => by have := (HO.out.lt _ hx).1; omega)).setCell (p := ⟨w.heap.size, 0, none⟩) (Nat.le_refl _) (.slice (some ⟨g1, 0, none⟩) (done.length + 1) cp1)
                have hd' : (done ++ [(s.extract j k, j), (Utf8.encode 41, k)]).length = done.length + 1 + 1 := by simp
                refine ⟨((hB2.grown hgr3 (by omega) (fun x hx => by have := (hown2.lt _ hx).1; omega))).setCell (Nat.le_refl _) _, k + 1, done ++ [(s.extract j k, j), (Utf8.encode 41, k)], _, by omega, by go_num, by rw [hd']; omega, block5_set hP3.out, ?_, .inl ⟨rfl, ?_⟩⟩
                · have hfl : flT (done ++ [(s.extract j k, j), (Utf8.encode 41, k)]) = flT done ++ [.string (s.extract j k), .int .i64 j] ++ [.string (Utf8.encode 41), .int .i64 k] := by simp [flT]
                  rw [hd', hfl]; exact ownsRow_setCell_below ho3 (Nat.lt_succ_self _) _
                · rw [List.append_assoc]
                  show done ++ ((s.extract j k, j) :: (Utf8.encode 41, k) :: toksAt s (k + 1)) = _
                  rw [← HE.out, ← htk]; exact HD.out
        · have hcs : isSep s[k] = false := by simp only [isSep]; simp [hc]; simpa using hm
          have hcn : ((s[k]'hlt).toNat : Int) ≠ 32 := fun h => hc (UInt8.toNat_inj.1 (by show _ = 32; omega))
          have hci : Lib.indexByte [40, 41] s[k] = -1 := by rw [index_is, if_neg (fun h => hm (.inl h)), if_neg (fun h => hm (.inr h))]
          have HS := Lib.hid hcs
          clear hc hcs hm
          rcases hR with ⟨rfl, hd⟩ | ⟨j, rfl, hjk, hks, hd, hq⟩
          · have HD := Lib.hid hd
            clear hd
            go_wp2_with (go_at_call 16; refine (Tryd.strings_IndexByte _ _ _).mono ?_; rintro e w' ⟨rfl, rfl⟩)
            go_roundg n
            case measure => omega
            case rel => exact ⟨HB.out, k + 1, done, v, by omega, by go_num, by omega, HP.out, HO.out, .inr ⟨k, rfl, by omega, by omega, HD.out, fun q h1 h2 h3 => by have hqk : q = k := (by omega); subst hqk; exact HS.out⟩⟩
          · have HD := Lib.hid hd; have HQ := Lib.hid hq
            clear hd hq
            go_wp2_with (go_at_call 16; refine (Tryd.strings_IndexByte _ _ _).mono ?_; rintro e w' ⟨rfl, rfl⟩)
            go_roundg n
            case measure => omega
            case rel =>
              refine ⟨HB.out, k + 1, done, v, by omega, by go_num, by omega, HP.out, HO.out, .inr ⟨j, rfl, by omega, by omega, HD.out, fun q h1 h2 h3 => ?_⟩⟩
              rcases Nat.lt_or_ge q k with h | h
              · exact HQ.out q h1 h h3
              · obtain rfl : q = k := by omega
                exact HS.out
    · obtain ⟨k0, k1, k2, k3, k4, z0, z1, z2, z3, z4⟩ := block5 hP
      have HB := Lib.hid hb; have HP := Lib.hid hP; have HO := Lib.hid hown
      clear hb hP
      by_cases he : k = s.size
      · subst he
        obtain ⟨n, rfl⟩ : ∃ n, gk = n + 1 := ⟨gk - 1, by omega⟩
        have hci : Lib.indexByte [40, 41] 32 = -1 := rfl
        have he1 : toksAt s (s.size + 1) = [] := toksAt_end (by omega)
        have he2 : toksAt s s.size = [] := toksAt_end (by omega)
        have HE := Lib.hid (he2.trans he1.symm)
        clear he1 he2 hown
        rcases hR with ⟨rfl, hd⟩ | ⟨j, rfl, hjk, hks, hd, hq⟩
        · have HD := Lib.hid hd
          clear hd
          go_wp2_with (go_at_call 16; refine (Tryd.strings_IndexByte _ _ _).mono ?_; rintro e w' ⟨rfl, rfl⟩)
          go_roundg n
          case measure => omega
          case rel => exact ⟨HB.out, s.size + 1, done, v, by omega, by go_num, by omega, HP.out, HO.out, .inl ⟨rfl, by rw [← HE.out]; exact HD.out⟩⟩
        · have HD := Lib.hid hd; have HQ := Lib.hid hq
          have HS : Hid (∀ h : s.size < s.size, isSep s[s.size] = true) := Lib.hid (fun h => absurd h hlt)
          clear hd hq
          go_wp2_with (go_at_call 16; refine (Tryd.strings_IndexByte _ _ _).mono ?_; rintro e w' ⟨rfl, rfl⟩)
          refine wp_region_late (fun W => W.cell? ⟨w.heap.size, 0, none⟩ = some v) [12] rfl (by simpa using k0) (fun hHeld => ?_)
          refine wpAnyT_takePD (i := 0) (d := 43) (oi := _) (v := ?zv37) rfl rfl (by kernel_rfl) (fun _ _ _ h => h) (Or.inl ⟨by rfl, ?zy37⟩) (by assumption) ?zr37
          case zy37 => (intro w hSw; (try dsimp only at hSw); go_split_ands; go_simp; (try rw [if_pos (by omega)]); (try go_simp); try with_reducible rfl)
          simp only [List.setIfInBounds_toArray, List.set_cons_zero, List.set_cons_succ]
          refine wpAnyT_takePD (i := 1) (d := 44) (oi := _) (v := ?zv38) rfl rfl (by kernel_rfl) (fun _ _ _ h => h) (Or.inl ⟨by rfl, ?zy38⟩) (by assumption) ?zr38
          case zy38 => (intro w hSw; (try dsimp only at hSw); go_split_ands; go_simp; (try rw [if_pos (by omega)]); (try go_simp); try with_reducible rfl)
          simp only [List.setIfInBounds_toArray, List.set_cons_zero, List.set_cons_succ]
          refine wpAnyT_takePD (i := 2) (d := 45) (oi := _) (v := ?zv39) rfl rfl (by kernel_rfl) (fun _ _ _ h => h) (Or.inl ⟨by rfl, ?zy39⟩) (by assumption) ?zr39
          case zy39 => (intro w hSw; (try dsimp only at hSw); go_split_ands; go_simp; (try rw [if_pos (by omega)]); (try go_simp); try with_reducible rfl)
          simp only [List.setIfInBounds_toArray, List.set_cons_zero, List.set_cons_succ]
          refine wpAnyT_takePD (i := 3) (d := 46) (oi := _) (v := ?zv40) rfl rfl (by kernel_rfl) (fun _ _ _ h => h) (Or.inl ⟨by rfl, ?zy40⟩) (by assumption) ?zr40
          case zy40 => (intro w hSw; (try dsimp only at hSw); go_split_ands; go_simp; (try rw [if_pos (by omega)]); (try go_simp); try with_reducible rfl)
          simp only [List.setIfInBounds_toArray, List.set_cons_zero, List.set_cons_succ]
          refine wpAnyT_takeD (i := 4) (d := 47) (oi := _) (v := ?zv41) rfl rfl (by kernel_rfl) (fun _ _ _ h => h) (Or.inl ⟨by rfl, ?zy41⟩) (by assumption) ?zr41
          case zy41 => (intro w hSw; (try dsimp only at hSw); go_split_ands; go_simp; (try rw [if_pos (by omega)]); (try go_simp); try with_reducible rfl)
          simp only [List.setIfInBounds_toArray, List.set_cons_zero, List.set_cons_succ]
          refine wpAnyT_takePD (i := 5) (d := 48) (oi := _) (v := ?zv42) rfl rfl (by kernel_rfl) (fun _ _ _ h => h) (Or.inl ⟨by rfl, ?zy42⟩) (by assumption) ?zr42
          case zy42 => (intro w hSw; (try dsimp only at hSw); go_split_ands; go_simp; (try rw [if_pos (by omega)]); (try go_simp); try with_reducible rfl)
          simp only [List.setIfInBounds_toArray, List.set_cons_zero, List.set_cons_succ]
          refine wpAnyT_takePD (i := 6) (d := 49) (oi := _) (v := ?zv43) rfl rfl (by kernel_rfl) (fun _ _ _ h => h) (Or.inl ⟨by rfl, ?zy43⟩) (by assumption) ?zr43
          case zy43 => (intro w hSw; (try dsimp only at hSw); go_split_ands; go_simp; (try rw [if_pos (by omega)]); (try go_simp); try with_reducible rfl)
          simp only [List.setIfInBounds_toArray, List.set_cons_zero, List.set_cons_succ]
          refine wpAnyT_takePD (i := 7) (d := 50) (oi := _) (v := ?zv44) rfl rfl (by kernel_rfl) (fun _ _ _ h => h) (Or.inl ⟨by rfl, ?zy44⟩) (by assumption) ?zr44
          case zy44 => (intro w hSw; (try dsimp only at hSw); go_split_ands; go_simp; (try rw [if_pos (by omega)]); (try go_simp); try with_reducible rfl)
          simp only [List.setIfInBounds_toArray, List.set_cons_zero, List.set_cons_succ]
          refine wpAnyT_takePD (i := 8) (d := 51) (oi := _) (v := ?zv45) rfl rfl (by kernel_rfl) (fun _ _ _ h => h) (Or.inl ⟨by rfl, ?zy45⟩) (by assumption) ?zr45
          case zy45 => (intro w hSw; (try dsimp only at hSw); go_split_ands; go_simp; (try rw [if_pos (by omega)]); (try go_simp); try with_reducible rfl)
          simp only [List.setIfInBounds_toArray, List.set_cons_zero, List.set_cons_succ]
          refine wpAnyT_takePD (i := 9) (d := 52) (oi := _) (v := ?zv46) rfl rfl (by kernel_rfl) (fun _ _ _ h => h) (Or.inl ⟨by rfl, ?zy46⟩) (by assumption) ?zr46
          case zy46 => (intro w hSw; (try dsimp only at hSw); go_split_ands; go_simp; (try rw [if_pos (by omega)]); (try go_simp); try with_reducible rfl)
          simp only [List.setIfInBounds_toArray, List.set_cons_zero, List.set_cons_succ]
          refine wpAnyT_takePD (i := 10) (d := 53) (oi := _) (v := ?zv47) rfl rfl (by kernel_rfl) (fun _ _ _ h => h) (Or.inl ⟨by rfl, ?zy47⟩) (by assumption) ?zr47
          case zy47 => (intro w hSw; (try dsimp only at hSw); go_split_ands; go_simp; (try rw [if_pos (by omega)]); (try go_simp); try with_reducible rfl)
          simp only [List.setIfInBounds_toArray, List.set_cons_zero, List.set_cons_succ]
          refine wpAnyT_ready (rs := [11]) (by kernel_rfl) (by simp) (AllReadyT.cons rfl (fun K2 hK2 => ?_) AllReadyT.nil)
          go_simp
          refine hK2.out _ _ ?_ (fun _ => ?_)
          · exact (World.cell?_alloc_some _ _ _ (by rw [k0]; rfl)).trans k0
          refine wpAnyT_tail 12 (by simp) rfl (by simp) (by kernel_rfl) ?_
          simp only [List.drop_succ_cons, List.drop_zero]
          have hsz : w.heap.size + 1 ≤ w'.heap.size := (Array.getElem?_eq_some_iff.1 HP.out).1
          have hown := HO.out
          go_wp2_with (at_builtin; refine wpList_append_fresh rfl _ _ 42 rfl (w.heap.size + 1) 65 (.agg #[.string ⟨#[]⟩, .int .i64 0]) 2 24 Tryd.underlying42 infoSign rfl (by decide) v _ _ rfl w' hown 1 [.string (s.extract j s.size), .int .i64 j] 1 rfl (by first | rfl | (rw [World.size_setCell]; rfl)) rfl (by simp [Value.oneCell']) (by decide) (by omega) (by omega) hsz ?_; intro g cp w ho hgr hat hlt; have hP := Lib.hid ((hgr.block _ hsz (fun h => by have := (hown.lt _ h.symm).1; omega)).trans HP.out); obtain ⟨y0, _, _, _, _, z0, _, _, _, _⟩ := block5 hP.out)
          go_roundg n
          case measure => omega
          case rel =>
            have hd' : (done ++ [(s.extract j s.size, j)]).length = done.length + 1 := by simp
            have hwe : wordEnd s (s.size - j) j = s.size := wordEnd_at hks HS.out (s.size - j) j (by omega) (fun q h1 h2 => HQ.out q h1 h2 (by omega))
            have htk := toksAt_word (s := s) (i := j) (by omega) (HQ.out j (Nat.le_refl _) hjk (by omega))
            rw [hwe] at htk
            refine ⟨((HB.out.grown hgr (by omega) (fun x hx => by have := (HO.out.lt _ hx).1; omega))).setCell (Nat.le_refl _) _, s.size + 1, done ++ [(s.extract j s.size, j)], _, by omega, by go_num, by rw [hd']; omega, block5_set hP.out, ?_, .inl ⟨rfl, ?_⟩⟩
            · rw [hd', flT_snoc]; exact ownsRow_setCell_below ho (Nat.lt_succ_self _) _
            · rw [List.append_assoc]
              show done ++ ((s.extract j s.size, j) :: toksAt s (s.size + 1)) = _
              rw [← HE.out, ← htk]; exact HD.out
      · obtain rfl : k = s.size + 1 := by omega
        have he1 : toksAt s (s.size + 1) = [] := toksAt_end (by omega)
        rcases hR with ⟨rfl, hd⟩ | ⟨j, rfl, hjk, hks, hd, hq⟩
        · rw [he1, List.append_nil] at hd
          subst hd
          clear he1 hown
          go_wp2
          go_ret
          exact ⟨w.heap.size, rfl, ⟨v, HP.out, HO.out, HB.out, Nat.le_refl _⟩⟩
        · omega
end Go.Proofs.YtfjfbiocjloilaaDoor
