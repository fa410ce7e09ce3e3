/-
  What is proved here (no program in sight): a drawn region with late stores whose last operations come in one order: they are walked as they stand; and tactics for its reads.
-/
import Derived.Test.YtfjfbiocjloilaaDoorLate
import Derived.StillTailTactics
namespace Go
section
variable {P : Program} {Q : Exit → Act → World → Prop} {md : Region.Mode} {S : World → Prop} {ts : List Nat}
theorem wpAnyT_of_any {ops : Array Oper} {t : Nat} (ht : t ∈ ts) : ∀ (fuel : Nat) (listed : Array Bool) (a : Act) (w : World), listed.getD t false = true → wpAny P md ops Q fuel listed a w → wpAnyT P md ops Q S ts fuel listed a w
  | 0, _, _, _, _, h => h
  | fuel + 1, listed, a, w, hl, h => ⟨h.1, fun i hi => wpOp_mono (fun a' w' h' => by
      have h2 : (listed.setIfInBounds i true).getD t false = true := getD_set_up hl
      exact ⟨fun hn => absurd (hn t ht) (by rw [h2]; simp), wpAnyT_of_any ht fuel _ a' w' h2 h'⟩) (h.2 i hi)⟩
/-- From the operation k of ts on: one order. -/
theorem wpAnyT_tail {l : List Oper} (k : Nat) {g : Nat} (hk : k ∈ ts) {listed : Array Bool} {a : Act} {w : World} (hg : (l.drop k).length = g + 1) (hs : k < listed.size)
    (hB : Region.seqB md l.toArray (g + 1) k listed = true) (h : wpList P l.toArray Q (l.drop k) a w) : wpAnyT P md l.toArray Q S ts (g + 1) listed a w := by
  have A : wpAny P md l.toArray Q (g + 1) listed a w := by
    rw [← hg]
    exact wpAny_of_seq (l.drop k) k listed a w (fun j => by simp [List.getElem?_drop]) (by rw [hg]; exact hB) h
  simp only [Region.seqB, Bool.and_eq_true, decide_eq_true_eq] at hB
  refine ⟨A.1, fun i hi => ?_⟩
  have hik : i = k := by rw [hB.1] at hi; simpa using hi
  subst hik
  have h2 : (listed.setIfInBounds i true).getD i false = true := by simp [Array.getD_eq_getD_getElem?, hs]
  exact wpOp_mono (fun a' w' h' => ⟨fun hn => absurd (hn i hk) (by rw [h2]; simp), wpAnyT_of_any hk g _ a' w' h2 h'⟩) (A.2 i hi)
end
end Go
