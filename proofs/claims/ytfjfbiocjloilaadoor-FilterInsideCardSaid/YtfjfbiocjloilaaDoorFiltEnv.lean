/-
  What is proved here: what the rows' condition on the program's variables gives the walks of chapter 11 (EnvF); a world that meets it.
-/
import Derived.Test.YtfjfbiocjloilaaDoorRows
import Derived.Test.YtfjfbiocjloilaaDoorFiltW6
import Derived.LaidLaws
import Derived.Lay
import Derived.Lib.LaidU8
import Derived.SliceStrings
import Derived.Shelf.Vars
namespace Go.Proofs.YtfjfbiocjloilaaDoor
open Go.ChangeShapes Go.WideShapes Go.RowKit Go.Lib

abbrev laidL : List (String × DataW Unit) := [("math/bits.deBruijn32tab", Rows.laid_math_bits_deBruijn32tab), ("math/bits.deBruijn64tab", Rows.laid_math_bits_deBruijn64tab), ("internal/strconv.uint64pow10", Rows.laid_internal_strconv_uint64pow10), ("strconv.ErrRange", Rows.laid_strconv_ErrRange), ("strconv.ErrSyntax", Rows.laid_strconv_ErrSyntax), ("millrace/filter.fields", Rows.laid_millrace_filter_fields), ("millrace/millraceref.fields", Rows.laid_millrace_millraceref_fields), ("millrace/millraceref.Fine", Rows.laid_millrace_millraceref_Fine)]
theorem arr_at {cs : Array Value} {l : List Value} (h : cs.toList = l) (i : Nat) : cs[i]? = l[i]? := by rw [← h]; simp
theorem arr_of {cs : Array Value} {v : Value} (h : cs.toList = [v]) : cs = #[v] := by
  cases cs with | mk l => simp at h; rw [h]
theorem var_cell {W : World} {n : String} {g i : Nat} {cs : Array Value} {l : List Value} {v : Value} (hg : Tryd.prog.globalNamed n = some g) (hv : W.var? Tryd.prog n = some cs) (hl : cs.toList = l) (hi : l[i]? = some v) : W.cell? ⟨g, i, none⟩ = some v := by
  rw [World.var?_cell hg hv i, arr_at hl i, hi]
theorem names_at {n : String} {g : Nat} {W : World} {d : DataW Unit} {t : TypeId} (hg : Tryd.prog.globalNamed n = some g) (ht : (Tryd.prog.globals[g]?).map (·.type) = some t) (h : VarReads Tryd.prog W n d) :
    ∃ cs fuel p, W.var? Tryd.prog n = some cs ∧ DataW.trod (fun _ => ()) Tryd.prog W 0 (fun _ => true) false fuel t cs.toList = some (d, p) := by
  obtain ⟨g', t', cs, fuel, p, h1, h2, h3, h4⟩ := h
  obtain rfl := Option.some.inj (hg.symm.trans h1)
  obtain rfl := Option.some.inj (ht.symm.trans h2)
  exact ⟨cs, fuel, p, h3, h4⟩
theorem nm_fine : Tryd.prog.globalNamed "millrace/millraceref.Fine" = some 1 := by kernel_rfl
theorem ty_fine : (Tryd.prog.globals[1]?).map (·.type) = some 25 := by kernel_rfl
theorem nm_rf : Tryd.prog.globalNamed "millrace/millraceref.fields" = some 0 := by kernel_rfl
theorem ty_rf : (Tryd.prog.globals[0]?).map (·.type) = some 47 := by kernel_rfl
theorem nm_pf : Tryd.prog.globalNamed "millrace/filter.fields" = some 2 := by kernel_rfl
theorem ty_pf : (Tryd.prog.globals[2]?).map (·.type) = some 71 := by kernel_rfl
theorem ty_syn : (Tryd.prog.globals[5]?).map (·.type) = some 31 := by kernel_rfl
theorem ty_rng : (Tryd.prog.globals[6]?).map (·.type) = some 31 := by kernel_rfl
theorem ty_tab : (Tryd.prog.globals[4]?).map (·.type) = some 118 := by kernel_rfl
theorem cells_str : Tryd.prog.cellsOf 9 = 1 := by kernel_rfl
theorem kField_data : ∀ i, i < 5 → ([[97, 116], [108, 101, 110], [102, 108, 111, 119], [98, 97, 110, 100], [109, 97, 114, 107]] : List (List UInt8))[i]? = some (kField i).data.toList
  | 0, _ => rfl
  | 1, _ => rfl
  | 2, _ => rfl
  | 3, _ => rfl
  | 4, _ => rfl
  | i + 5, h => by omega
theorem fine_cells {W : World} (h : laidMet Tryd.prog laidL W) : W.cell? ⟨1, 0, none⟩ = some (.int .i64 0) ∧ W.cell? ⟨1, 1, none⟩ = some (.int .i64 (-1)) := by
  have hr := Lib.laidMet.reads h (n := "millrace/millraceref.Fine") (d := Rows.laid_millrace_millraceref_Fine) (by repeat (first | exact List.Mem.head _ | apply List.Mem.tail))
  obtain ⟨cs, fuel, p, hv, hd⟩ := names_at nm_fine ty_fine hr
  have hc := ints_of_struct (k := .i64) (zs := [0, -1]) Tryd.underlying25 (by
    intro i f hf
    match i with
    | 0 => simp at hf; subst hf; exact ⟨Tryd.underlying23, rfl, by kernel_rfl⟩
    | 1 => simp at hf; subst hf; exact ⟨Tryd.underlying3, rfl, by kernel_rfl⟩
    | i + 2 => simp at hf) (by kernel_rfl) hd
  exact ⟨var_cell nm_fine hv hc rfl, var_cell nm_fine hv hc rfl⟩
theorem pf_cells {W : World} (h : laidMet Tryd.prog laidL W) : ∀ i, i < 5 → W.cell? ⟨2, i, none⟩ = some (.string (kField i)) := by
  intro i hi
  have hr := Lib.laidMet.reads h (n := "millrace/filter.fields") (d := Rows.laid_millrace_filter_fields) (by repeat (first | exact List.Mem.head _ | apply List.Mem.tail))
  obtain ⟨cs, fuel, p, hv, hd⟩ := names_at nm_pf ty_pf hr
  obtain ⟨fuel', d, q, h1, h2⟩ := array_elem Tryd.underlying71 hd i hi
  obtain ⟨s, h3, h4, _⟩ := DataW.trod_string Tryd.underlying9 h2
  rw [cells_str, Nat.mul_one] at h3
  have h5 : cs.toList[i]? = some (.string s) := by
    have := congrArg (·[0]?) h3
    simpa [List.getElem?_take, List.getElem?_drop] using this
  have hs : s = kField i := by
    rw [bytes_ext]
    have hk := kField_data i hi
    have h6 : d = .lit (.string s.data.toList) := congrArg Prod.fst h4
    subst h6
    obtain rfl | rfl | rfl | rfl | rfl : i = 0 ∨ i = 1 ∨ i = 2 ∨ i = 3 ∨ i = 4 := by omega
    all_goals (simp at h1 hk; rw [← h1, hk])
  subst hs
  exact var_cell nm_pf hv rfl h5
theorem rf_cells {W : World} (h : laidMet Tryd.prog laidL W) : ∃ b o c, W.cell? ⟨0, 0, none⟩ = some (.slice (some ⟨b, o, none⟩) 5 c) ∧ b < W.heap.size ∧ ∀ i, i < 5 → W.cell? ⟨b, o + i, none⟩ = some (.string (kField i)) := by
  have hr := Lib.laidMet.reads h (n := "millrace/millraceref.fields") (d := Rows.laid_millrace_millraceref_fields) (by repeat (first | exact List.Mem.head _ | apply List.Mem.tail))
  obtain ⟨cs, fuel, p, hv, hd⟩ := names_at nm_rf ty_rf hr
  rcases open_strings Tryd.underlying47 Tryd.underlying9 cells_str hd with ⟨_, h0⟩ | ⟨a, len, cap, ss, h1, _, hl, _, hsl, hx, hcell, _⟩
  · have := congrArg Prod.fst h0; cases this
  · simp only [if_true] at hsl
    have e1 := congrArg Prod.fst hx
    have e2 : strs (H := Unit) (ss.take len) = [.lit (.string [97, 116]), .lit (.string [108, 101, 110]), .lit (.string [102, 108, 111, 119]), .lit (.string [98, 97, 110, 100]), .lit (.string [109, 97, 114, 107])] := by
      injection e1 with a1 a2; exact a1.symm
    have hlen : len = 5 := by
      have := congrArg List.length e2
      simp [strs] at this
      omega
    subst hlen
    obtain ⟨b, o, spot⟩ := a
    have hspot : spot = none := by simpa [Addr.add] using World.cell?_spot (hcell 0 (by omega))
    subst hspot
    have hc : ∀ i, i < 5 → W.cell? ⟨b, o + i, none⟩ = some (.string (kField i)) := fun i hi => by
      have h3 := hcell i (by omega)
      rw [WideShapes.add_plain] at h3
      rw [h3]
      have h4 := congrArg (·[i]?) e2
      have hk := kField_data i hi
      have h5 : ss.getD i ByteArray.empty = kField i := by
        rw [bytes_ext]
        have hss : ss[i]? = some (ss.getD i ByteArray.empty) := by rw [List.getD_eq_getElem?_getD, List.getElem?_eq_getElem (by omega)]; rfl
        obtain ⟨x, hx⟩ : ∃ x, x = ss.getD i ByteArray.empty := ⟨_, rfl⟩
        rw [← hx] at hss ⊢
        simp only [strs, List.getElem?_map, List.getElem?_take, hi, if_true, hss, Option.map_some] at h4
        obtain rfl | rfl | rfl | rfl | rfl : i = 0 ∨ i = 1 ∨ i = 2 ∨ i = 3 ∨ i = 4 := by omega
        all_goals (simp at h4 hk; rw [h4, hk])
      rw [h5]
    exact ⟨b, o, cap, var_cell nm_rf hv h1 rfl, World.block_lt_of_cell? W _ (hc 0 (by omega)), hc⟩
theorem syn_cells {W : World} (h : laidMet Tryd.prog laidL W) : ∃ tp p, W.var? Tryd.prog "strconv.ErrSyntax" = some #[.iface tp p] := by
  have hr := Lib.laidMet.reads h (n := "strconv.ErrSyntax") (d := Rows.laid_strconv_ErrSyntax) (by repeat (first | exact List.Mem.head _ | apply List.Mem.tail))
  obtain ⟨cs, fuel, p, hv, hd⟩ := names_at gSyn ty_syn hr
  obtain ⟨f1, u, v, h1, _, _⟩ := iface_of_trod Tryd.underlying31 hd
  exact ⟨u, v, by rw [hv, arr_of h1]⟩
theorem rng_cells {W : World} (h : laidMet Tryd.prog laidL W) : ∃ tp p, W.var? Tryd.prog "strconv.ErrRange" = some #[.iface tp p] := by
  have hr := Lib.laidMet.reads h (n := "strconv.ErrRange") (d := Rows.laid_strconv_ErrRange) (by repeat (first | exact List.Mem.head _ | apply List.Mem.tail))
  obtain ⟨cs, fuel, p, hv, hd⟩ := names_at gRng ty_rng hr
  obtain ⟨f1, u, v, h1, _, _⟩ := iface_of_trod Tryd.underlying31 hd
  exact ⟨u, v, by rw [hv, arr_of h1]⟩
theorem tab_cells {W : World} (h : laidMet Tryd.prog laidL W) : Lib.TabIs Tryd.prog W "internal/strconv.uint64pow10" .u64 Lib.pow10Tab := by
  have hr := Lib.laidMet.reads h (n := "internal/strconv.uint64pow10") (d := Rows.laid_internal_strconv_uint64pow10) (by repeat (first | exact List.Mem.head _ | apply List.Mem.tail))
  obtain ⟨cs, fuel, p, hv, hd⟩ := names_at gTab ty_tab hr
  have hc := cells_of_tab (k := .u64) (zs := Lib.pow10Tab) Tryd.underlying118 Tryd.underlying103 (by kernel_rfl) (by kernel_rfl) (p := p) (hd.trans (congrArg (fun d => some (d, p)) (show Rows.laid_internal_strconv_uint64pow10 = tabData .u64 Lib.pow10Tab by kernel_rfl)))
  unfold Lib.TabIs
  rw [hv, ← hc]
theorem last_cell {W : World} (h : laidMet Tryd.prog laidL W) : 9 ≤ W.heap.size := by
  have hr := Lib.laidMet.reads h (n := "math/bits.deBruijn64tab") (d := Rows.laid_math_bits_deBruijn64tab) (by repeat (first | exact List.Mem.head _ | apply List.Mem.tail))
  obtain ⟨g', t', cs, fuel, p, h1, h2, h3, h4⟩ := hr
  obtain rfl : 8 = g' := Option.some.inj ((show Tryd.prog.globalNamed "math/bits.deBruijn64tab" = some 8 by kernel_rfl).symm.trans h1)
  have h5 : W.heap[(8 : Nat)]? ≠ none := fun e => by
    unfold World.var? at h3
    simp only [h1, Option.bind_some] at h3
    rw [e] at h3
    cases h3
  rcases Nat.lt_or_ge 8 W.heap.size with hlt | hge
  · exact hlt
  · exact absurd (Array.getElem?_eq_none hge) h5
theorem maxl_cell {W : World} (h : W.ShapedOpen Tryd.prog) : ∃ m, W.cell? ⟨3, 0, none⟩ = some (.int .i64 m) :=
  cell_of_shapedOpen_int (t := 3) (zero := #[.int .i64 0]) h (of_decide_eq_true (by kernel_rfl)) (by kernel_rfl) rfl (by kernel_rfl) (by kernel_rfl) Tryd.underlying3
/-- What the condition gives a walk. -/
theorem envf_of_laid {W : World} (h : laidMet Tryd.prog laidL W) (hs : W.ShapedOpen Tryd.prog) : EnvF W.heap.size W :=
  ⟨⟨syn_cells h, rng_cells h, tab_cells h, last_cell h⟩, last_cell h, Nat.le_refl _, (fine_cells h).1, (fine_cells h).2, maxl_cell hs, rf_cells h, pf_cells h⟩
/-- A world that meets the condition. -/
noncomputable def laidWorld (os : Os) : World := World.laidAll Tryd.prog os laidL
theorem laidWorld_met (os : Os) (args : Array Value) : laidMet Tryd.prog laidL ((laidWorld os).forCall (fun _ _ => 0) ⟨#[], args, []⟩).memory :=
  laidMet_laidAll args (by kernel_rfl) (by kernel_rfl)
end Go.Proofs.YtfjfbiocjloilaaDoor
