/-
  What is proved here: the program's reader: one filter (11.2).
-/
import Derived.Test.YtfjfbiocjloilaaDoorFiltV3
namespace Go.Proofs.YtfjfbiocjloilaaDoor
open Go.RowKit Go.Sort

theorem OneVM.older {w w1 w' : World} {R T en : Nat} {wv pv : Value} {ts : List Tok} {fv ev : Value} (hs : w.heap.size ≤ w1.heap.size) : ∀ {res : Res}, OneVM w1 R T wv pv ts en fv ev w' res → OneVM w R T wv pv ts en fv ev w' res
  | .err _ _, h => h
  | .ok _ _, ⟨h1, k, h2, h3, h4⟩ => ⟨h1, k, h2, h3, h4.kept fun _ hb _ => ⟨Nat.le_trans hs hb, rfl⟩⟩
theorem OneVM.ifv {w w' : World} {R T en : Nat} {wv pv : Value} {ts : List Tok} {fv ev : Value} : ∀ {res : Res}, OneVM w R T wv pv ts en fv ev w' res → IfV fv
  | .err _ _, h => h.2
  | .ok _ _, ⟨_, _, _, _, h4⟩ => .inr h4.iface
theorem OneV.older {w w1 w' : World} {R T en : Nat} {wv pv : Value} {ts : List Tok} {res : Res} {r : Ending} (hg : w.grownBy w1 (some R)) (h : OneV w1 R T wv pv ts en res r w') : OneV w R T wv pv ts en res r w' := by
  obtain ⟨fv, ev, hr, hg2, hm⟩ := h
  exact ⟨fv, ev, hr, grownBy_trans hg hg2, hm.older hg.size⟩
set_option maxHeartbeats 2000000 in
set_option maxRecDepth 100000 in
theorem onev_deep {R T en lo : Nat} {wv pv : Value} {ts : List Tok} : OnesV R T wv pv ts en 0 lo := by
  intro w k h hE hT
  have hf := failp h 4
  have HF := Lib.hid hf
  clear hf
  go_enter Tryd.func13, Tryd.ntmps13
  go_wp2_with (go_at_call 14; refine HF.out.mono ?_; rintro r w2 ⟨eb, rfl, hp, hb⟩)
  go_ret2
  exact ⟨_, _, rfl, grownR_below (grownBy_refl _ _) hb, hp, .inl rfl⟩
set_option maxHeartbeats 4000000 in
set_option maxRecDepth 100000 in
theorem onev_step {R T en lo d : Nat} {wv pv : Value} {ts : List Tok} (hd : d < 20) (IH : OnesV R T wv pv ts en d lo) (hR : lo ≤ R) : OnesV R T wv pv ts en (d + 1) lo := by
  intro w k h hE hT
  have hRl := h.lt
  have hlen := h.len
  have hlist := fun (w' : World) (hg : w.grownBy w' (some R)) (hr : RS w' R T wv pv ts (k + 1) en) => listv (M := (ts.drop k).length) (k := k + 1) hd IH hr (hE.grown hg hR) hR (Nat.le_trans hT hg.size)
  obtain ⟨a, ha⟩ : ∃ a : Int, a = ((d + 1 : Nat) : Int) := ⟨_, rfl⟩
  rw [← ha]
  have ha3 : a - 1 = (d : Int) := by omega
  have HA := Lib.hid ha; have HA3 := Lib.hid ha3
  have ha4 : 1 ≤ a := by omega
  have ha5 : a ≤ 20 := by omega
  have ha6 : (a == 0) = false := by simp; omega
  have H := Lib.hid h; have HE := Lib.hid hE; have HH := Lib.hid IH; have HLI := Lib.hid hlist
  clear ha ha3 h hE IH hlist
  by_cases h0 : headIs (ts.drop k) kAny = true
  · go_enter Tryd.func13, Tryd.ntmps13
    go_wp2_with (go_at_call 21; refine (take_yes H.out h0).mono ?_; rintro r w2 ⟨rfl, hg2, hp2⟩)
    go_ret2
    refine ⟨_, _, rfl, hg2, ?_⟩
    unfold one
    rw [if_pos h0]
    refine ⟨rfl, k + 1, drop_tail, hp2, ?_⟩
    unfold VAst
    rfl
  · have h0' : headIs (ts.drop k) kAny = false := by simpa using h0
    by_cases h1 : headIs (ts.drop k) kNot = true
    · go_enter Tryd.func13, Tryd.ntmps13
      go_wp2_with (first
        | (go_at_call 13; refine Calls.mono (by rw [HA3.out]; exact HH.out _ _ hp3 (HE.out.grown (grownBy_trans hg2 hg3) hR) (Nat.le_trans hT (Nat.le_trans hg2.size hg3.size))) ?_; rintro r w4 ⟨fv, ev, rfl, hg4, hm⟩; rcases hm.ifv with rfl | ⟨ft, fp, rfl⟩)
        | (go_at_call 21; refine (take_yes hp2 h1).mono ?_; rintro r w3 ⟨rfl, hg3, hp3⟩)
        | (go_at_call 21; refine (take_no H.out h0').mono ?_; rintro r w2 ⟨rfl, hg2, hp2⟩))
      all_goals
        go_ret2
        refine ⟨_, _, rfl, grownBy_trans hg2 (grownBy_trans hg3 hg4), ?_⟩
        unfold one
        rw [if_neg (by rw [h0']; simp), if_pos h1, drop_tail]
        have hs2 := hg2.size; have hs3 := hg3.size
        cases ho : one d (ts.drop (k + 1)) with
        | err e rest => rw [ho] at hm; exact ⟨hm.1, .inr ⟨_, _, rfl⟩⟩
        | ok a rest =>
          rw [ho] at hm
          obtain ⟨e1, k2, e2, e3, e4⟩ := hm
          refine ⟨e1, k2, e2, e3, ?_⟩
          unfold VAst
          exact ⟨_, rfl, e4.kept fun b hb _ => ⟨by omega, rfl⟩⟩
    · have h1' : headIs (ts.drop k) kNot = false := by simpa using h1
      by_cases h2 : headIs (ts.drop k) kOpen = true
      · have hlt : (ts.drop (k + 1)).length < (ts.drop k).length := by have := headIs_len h2; rw [drop_tail] at this; omega
        have HLT := Lib.hid hlt
        have hMM : (ts.drop k).length ≤ 100001 := by rw [List.length_drop]; omega
        clear hlt
        go_enter Tryd.func13, Tryd.ntmps13
        go_wp2_with (first
          | (go_at_call 22; refine Calls.mono (by rw [HA.out]; exact HLI.out _ (grownBy_trans hg2 (grownBy_trans hg3 hg4)) hp4 HLT.out hMM) ?_; rintro r w5 ⟨fv, ev, rfl, hg5, hm⟩)
          | (go_at_call 21; refine (take_yes hp3 h2).mono ?_; rintro r w4 ⟨rfl, hg4, hp4⟩)
          | (go_at_call 21; refine (take_no hp2 h1').mono ?_; rintro r w3 ⟨rfl, hg3, hp3⟩)
          | (go_at_call 21; refine (take_no H.out h0').mono ?_; rintro r w2 ⟨rfl, hg2, hp2⟩))
        go_ret2
        have hg234 := grownBy_trans hg2 (grownBy_trans hg3 hg4)
        refine ⟨_, _, rfl, grownBy_trans hg234 hg5, ?_⟩
        unfold one
        rw [if_neg (by rw [h0']; simp), if_neg (by rw [h1']; simp), if_pos h2, drop_tail]
        exact hm.older hg234.size
      · have h2' : headIs (ts.drop k) kOpen = false := by simpa using h2
        have hE1 : ∀ W, w.grownBy W (some R) → EnvF lo W := fun W hg => HE.out.grown hg hR
        have HE1 := Lib.hid hE1
        have hglo := HE.out.glo
        clear hE1
        go_enter Tryd.func13, Tryd.ntmps13
        go_wp2_with (first
          | (go_at_call 21; refine (take_no hp3 h2').mono ?_; rintro r w4 ⟨rfl, hg4, hp4⟩; have hg234 := grownBy_trans hg2 (grownBy_trans hg3 hg4); have hpf := (HE1.out _ hg234).pf; have f0 := hpf 0 (by omega); have f1 := hpf 1 (by omega); have f2 := hpf 2 (by omega); have f3 := hpf 3 (by omega); have f4 := hpf 4 (by omega); clear hpf)
          | (go_at_call 21; refine (take_no hp2 h1').mono ?_; rintro r w3 ⟨rfl, hg3, hp3⟩)
          | (go_at_call 21; refine (take_no H.out h0').mono ?_; rintro r w2 ⟨rfl, hg2, hp2⟩))
        have HG := Lib.hid hg234; have HP4 := Lib.hid hp4
        clear hg234 hp4 hp3 hp2 hg2 hg3 hg4 f0 f1 f2 f3 f4
        go_loopg [42] 5 (fun g iv W => w.grownBy W (some R) ∧ ∃ i : Nat, i + g = 5 ∧ iv = .int .i64 i ∧ RS W R T wv pv ts k en ∧ ∀ j, j < i → headIs (ts.drop k) (kField j) = false)
        case atStart => exact ⟨HG.out, 0, by omega, rfl, HP4.out, fun j h => by omega⟩
        case round =>
          obtain ⟨hg, i, hi, rfl, hp, hno⟩ := hrel
          have HGR := Lib.hid hg; have HNO := Lib.hid hno; have HPP := Lib.hid hp
          by_cases hlt : i < 5
          · obtain ⟨n, rfl⟩ : ∃ n, gk = n + 1 := ⟨gk - 1, by omega⟩
            have hix : ∀ W : World, (Instr.index 71 (.agg #[.string (kField 0), .string (kField 1), .string (kField 2), .string (kField 3), .string (kField 4)]) (.int .i64 i)).run Tryd.prog W = .ok (.string (kField i)) W := fun W => by
              obtain rfl | rfl | rfl | rfl | rfl : i = 0 ∨ i = 1 ∨ i = 2 ∨ i = 3 ∨ i = 4 := by omega
              all_goals kernel_rfl
            clear hg hno hp
            by_cases hh : headIs (ts.drop k) (kField i) = true
            · have hone : one (d + 1) (ts.drop k) = tst i (ts.drop (k + 1)) := by
                unfold one
                rw [if_neg (by rw [h0']; simp), if_neg (by rw [h1']; simp), if_neg (by rw [h2']; simp), fieldAt_eq 5 0 i (fun j _ h => HNO.out j h) hh (by omega) (by omega), if_pos hlt, drop_tail]
              have HONE := Lib.hid hone
              clear hone
              go_wp2_with (first
                | (go_at_call 23; refine (testv hp7 (HE1.out _ (grownBy_trans HGR.out hg7)) hR (Nat.le_trans hT (grownBy_trans HGR.out hg7).size) hlt).mono ?_; rintro r w8 ⟨fv, ev, rfl, hg8, hm⟩)
                | (go_at_call 21; refine (take_yes HPP.out hh).mono ?_; rintro r w7 ⟨rfl, hg7, hp7⟩))
              go_ret2
              have hg67 := grownBy_trans HGR.out hg7
              refine ⟨_, _, rfl, grownBy_trans hg67 hg8, ?_⟩
              rw [HONE.out]
              exact hm.older hg67.size
            · have hh' : headIs (ts.drop k) (kField i) = false := by simpa using hh
              go_wp2_with (go_at_call 21; refine (take_no HPP.out hh').mono ?_; rintro r w7 ⟨rfl, hg7, hp7⟩)
              go_roundg n
              case measure => omega
              case rel =>
                refine ⟨grownBy_trans HGR.out hg7, i + 1, by omega, by go_num, hp7, fun j hj => ?_⟩
                rcases Nat.lt_or_ge j i with h | h
                · exact HNO.out j h
                · obtain rfl : j = i := by omega
                  exact hh'
          · obtain rfl : i = 5 := by omega
            clear hg hno hp
            go_wp2_with (go_at_call 14; refine (failp HPP.out 3).mono ?_; rintro r w7 ⟨eb, rfl, hpe, hbe⟩)
            go_ret2
            refine ⟨_, _, rfl, grownR_below HGR.out hbe, ?_⟩
            unfold one
            rw [if_neg (by rw [h0']; simp), if_neg (by rw [h1']; simp), if_neg (by rw [h2']; simp), fieldAt_none 5 0 (fun j _ h => HNO.out j (by omega)), if_neg (by omega)]
            exact ⟨hpe, .inl rfl⟩
theorem onev {R T en lo : Nat} {wv pv : Value} {ts : List Tok} (hR : lo ≤ R) : ∀ d, d ≤ 20 → OnesV R T wv pv ts en d lo
  | 0, _ => onev_deep
  | d + 1, h => onev_step (by omega) (onev hR d (by omega)) hR
end Go.Proofs.YtfjfbiocjloilaaDoor
