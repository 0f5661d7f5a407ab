/- Texts of this claim, one behind the other: ExU, LaidK, LaidS, ExZ. -/
import Derived.Test.YtjlikcfabekhlaaDoorMgg
import Derived.Lib.LaidTab
import Derived.Test.YtjlikcfabekhlaaDoorRows
import Derived.Shelf.Vars
set_option linter.unusedSimpArgs false
set_option linter.unusedVariables false

/- Any two expressions are the same just if all parts of theirs are (layer 12). -/
namespace Go.Proofs.YtjlikcfabekhlaaDoor
open Go.RowKit Go.Tab

theorem vX_list (cs : Array Value) : vX cs.toList = .agg cs := by simp [vX]
set_option maxHeartbeats 4000000 in
set_option maxRecDepth 100000 in
theorem ExprSame_walk (c0 : List Value) (x0 : Exp) (c1 : List Value) (x1 : Exp) (a2 : ByteArray) (w : World) (w0 : ExpAt w x0 c0) (w1 : ExpAt w x1 c1) (w2 : a2.size ≤ maxLen) (hT : LexT w) (f0 : FitX x0) (f1 : FitX x1) :
    Calls Tryd.prog 4 #[vX c0, vX c1, .string a2] w fun e w' => e = .returned (.bool true) ∧ Below w.heap.size w w' := by
  obtain ⟨o0, t0, s0, n0, k0, rfl⟩ := w0.shape
  obtain ⟨o1, t1, s1, n1, k1, rfl⟩ := w1.shape
  have hb1 : Below w.heap.size w ((w.alloc (.cells #[.string o0, .string t0, .slice s0 n0 k0] 26)).alloc (.cells #[.string o1, .string t1, .slice s1 n1 k1] 26)) := ((Below.refl _ w).alloc (Nat.le_refl _) _).alloc (by simp) _
  have hv0 := ExpAt.below hb1 _ _ w0
  have hv1 := ExpAt.below hb1 _ _ w1
  have hW := wakes_any _ (hT.below hb1)
  have HB1 := Lib.hid hb1
  simp only [vX]
  clear hb1 hT w0 w1
  go_enter Tryd.func4, Tryd.ntmps4
  go_wp2_with fail
  refine hW.mono ?_
  rintro _ v2 ⟨rfl, hb2⟩
  obtain ⟨hc0, hc1, hz0, hz1⟩ := two_new hb2
  have HB2 := Lib.hid (HB1.out.trans (hb2.mono HB1.out.size))
  have hv0 := ExpAt.below hb2 _ _ hv0
  have hv1 := ExpAt.below hb2 _ _ hv1
  have hG0 := GreatX_any x0 f0 v2 _ hv0
  have HC := Lib.hid (And.intro hc0 hc1)
  clear hb2 hW HB1
  have hc0c0 := hc0.cell 0 _ rfl
  have hc0f0 := hc0.frozen 0
  have hc0c1 := hc0.cell 1 _ rfl
  have hc0f1 := hc0.frozen 1
  have hc0c2 := hc0.cell 2 _ rfl
  have hc0f2 := hc0.frozen 2
  have hc1c0 := hc1.cell 0 _ rfl
  have hc1f0 := hc1.frozen 0
  have hc1c1 := hc1.cell 1 _ rfl
  have hc1f1 := hc1.frozen 1
  have hc1c2 := hc1.cell 2 _ rfl
  have hc1f2 := hc1.frozen 2
  clear hc0 hc1
  go_wp2_with fail
  refine hG0.mono ?_
  rintro _ v3 ⟨⟨b, rfl, hbb⟩, hb3⟩
  have HB3 := Lib.hid (HB2.out.trans (hb3.mono HB2.out.size))
  clear hG0
  cases b with
  | true =>
    clear hb3
    go_wp2
    go_ret
    exact ⟨rfl, HB3.out⟩
  | false =>
    have hs0 := hbb rfl
    have hc0 := HC.out.1.below hb3 hz0
    have hc1 := HC.out.2.below hb3 hz1
    have hv0 := ExpAt.below hb3 _ _ hv0
    have hv1 := ExpAt.below hb3 _ _ hv1
    have hG1 := GreatX_any x1 f1 v3 _ hv1
    have hy0 := hc0.lt
    have hy1 := hc1.lt
    have HC3 := Lib.hid (And.intro hc0 hc1)
    clear hb3 HC hc0c0 hc0c1 hc0c2 hc0f0 hc0f1 hc0f2 hc1c0 hc1c1 hc1c2 hc1f0 hc1f1 hc1f2 hbb
    have hc0c0 := hc0.cell 0 _ rfl
    have hc0f0 := hc0.frozen 0
    have hc0c1 := hc0.cell 1 _ rfl
    have hc0f1 := hc0.frozen 1
    have hc0c2 := hc0.cell 2 _ rfl
    have hc0f2 := hc0.frozen 2
    have hc1c0 := hc1.cell 0 _ rfl
    have hc1f0 := hc1.frozen 0
    have hc1c1 := hc1.cell 1 _ rfl
    have hc1f1 := hc1.frozen 1
    have hc1c2 := hc1.cell 2 _ rfl
    have hc1f2 := hc1.frozen 2
    clear hc0 hc1
    go_wp2_with fail
    refine hG1.mono ?_
    rintro _ v4 ⟨⟨b, rfl, hbb⟩, hb4⟩
    have HB4 := Lib.hid (HB3.out.trans (hb4.mono HB3.out.size))
    clear hG1
    cases b with
    | true =>
      clear hb4
      go_wp2
      go_ret
      exact ⟨rfl, HB4.out⟩
    | false =>
      have hc0 := HC3.out.1.below hb4 hy0
      have hc1 := HC3.out.2.below hb4 hy1
      have hv0 := ExpAt.below hb4 _ _ hv0
      have hv1 := ExpAt.below hb4 _ _ hv1
      clear hb4 HC3 hc0c0 hc0c1 hc0c2 hc0f0 hc0f1 hc0f2 hc1c0 hc1c1 hc1c2 hc1f0 hc1f1 hc1f2 hbb
      by_cases h100 : 100 < a2.size
      · have hq : decide ((100 : Int) < (a2.size : Int)) = true := by rw [decide_eq_true_iff]; omega
        clear h100
        go_wp2
        go_ret
        exact ⟨rfl, HB4.out⟩
      · have hq : decide ((100 : Int) < (a2.size : Int)) = false := by rw [decide_eq_false_iff_not]; omega
        clear h100
        go_wp2_with fail
        obtain ⟨b, hb⟩ := some_bool (x0 = x1)
        have hS := fun x : Under v4 => Under.call x (SameP.fix hb (xSame_any x0 x1 x.w _ _ (hv0.under x) (hv1.under x)))
        have hR := fun x : Under v4 => Under.call x (SameP.fix hb (rSame_any x0 x1 x.w _ _ (hv0.under x) (hv1.under x)))
        have hL := fun x : Under v4 => Under.call x ((Level_any a2 x.w).mono (fun e w' h => And.intro h.1 (h.2 ▸ Below.refl _ _)))
        have hM := fun x : Under v4 => Under.call x ((rLevel_any a2 x.w).mono (fun e w' h => And.intro h.1 (h.2 ▸ Below.refl _ _)))
        have hu0 := hc0.lt
        have hu1 := hc1.lt
        have p0 := fun x : Under v4 => (x.below.cell (p := ⟨w.heap.size, 0, none⟩) hu0).trans (hc0.cell 0 _ rfl)
        have p1 := fun x : Under v4 => (x.below.cell (p := ⟨w.heap.size, 1, none⟩) hu0).trans (hc0.cell 1 _ rfl)
        have p2 := fun x : Under v4 => (x.below.cell (p := ⟨w.heap.size, 2, none⟩) hu0).trans (hc0.cell 2 _ rfl)
        have q0 := fun x : Under v4 => (x.below.cell (p := ⟨w.heap.size + 1, 0, none⟩) hu1).trans (hc1.cell 0 _ rfl)
        have q1 := fun x : Under v4 => (x.below.cell (p := ⟨w.heap.size + 1, 1, none⟩) hu1).trans (hc1.cell 1 _ rfl)
        have q2 := fun x : Under v4 => (x.below.cell (p := ⟨w.heap.size + 1, 2, none⟩) hu1).trans (hc1.cell 2 _ rfl)
        simp only [vX] at hS hR
        clear hb hv0 hv1
        generalize lvN a2 = lv at *
        refine wp_region_under v4 (by kernel_rfl) (by kernel_rfl) (Below.refl _ _) ?_
        repeat (go_big_quiet_step ((first | (go_at_call 11; with_reducible exact hS _) | (go_at_call 9; with_reducible exact hR _) | (go_at_call 8; with_reducible exact hL _) | (go_at_call 12; with_reducible exact hM _))))
        refine wpQuiet_nil ?_
        rintro _ ⟨x, rfl⟩
        have HB5 := Lib.hid (HB4.out.trans (x.below.mono HB4.out.size))
        clear p0 p1 p2 q0 q1 q2 hS hR hL hM
        go_wp2
        go_ret
        exact ⟨by simp, HB5.out⟩
end Go.Proofs.YtjlikcfabekhlaaDoor

/- What a row's list of laid variables gives, entry by entry, over any program: a table of numbers, a table of tables, an error's place. -/
namespace Go.Tab
open Go.Lib

/-- An entry of the list: its variable reads as the datum. -/
def LaidAt (P : Program) (W : World) (n : String) (d : DataW Unit) : Prop :=
  ∃ g t cs fuel p, P.globalNamed n = some g ∧ (P.globals[g]?).map (·.type) = some t ∧ W.var? P n = some cs ∧ DataW.trod (fun _ => ()) P W 0 (fun _ => true) false fuel t cs.toList = some (d, p)
theorem laid_vars {P : Program} {W : World} : ∀ {L : List (String × DataW Unit)} {ps : List MemPlace}, DataW.LaidVars P W L ps → ∀ n d, (n, d) ∈ L → LaidAt P W n d
  | [], _, _, _, _, h => by cases h
  | (n', d') :: L, _, h0, n, d, h => by
    obtain ⟨g, t, cs, fuel, p, q, h1, h2, h3, h4, h5, _⟩ := h0
    rcases List.mem_cons.1 h with h | h
    · cases h; exact ⟨g, t, cs, fuel, p, h1, h2, h3, h4⟩
    · exact laid_vars h5 n d h
theorem laid_of_met {P : Program} {W : World} {L : List (String × DataW Unit)} (h : laidMet P L W) {n : String} {d : DataW Unit} (hm : (n, d) ∈ L) : LaidAt P W n d := by
  obtain ⟨ps, h1, _⟩ := h
  exact laid_vars h1 n d hm
/-- A table of numbers. -/
theorem LaidAt.tab {P : Program} {W : World} {name : String} {k : IntKind} {zs : List Int} {g : Nat} {t e : TypeId} {n : Nat}
    (hg : P.globalNamed name = some g) (hty : (P.globals[g]?).map (·.type) = some t) (ht : P.underlying t = some (.array n e)) (he : P.underlying e = some (.int k)) (hce : P.cellsOf e = 1) (hct : P.cellsOf t = n)
    (h : LaidAt P W name (tabData k zs)) : TabIs P W name k zs := by
  obtain ⟨g', t', cs, fuel, p, hg', ht', hvar, hd⟩ := h
  obtain rfl := Option.some.inj (hg.symm.trans hg')
  obtain rfl := Option.some.inj (hty.symm.trans ht')
  unfold TabIs
  rw [hvar, ← cells_of_tab ht he hce hct hd]
/-- An array of arrays of numbers that reads as the table's rows. -/
theorem cells_of_tabs {H : Type} {enc : TypeId × Value → H} {P : Program} {w : World} {base : Nat} {sp : Nat → Bool} {held : Bool} {fuel : Nat} {t e i : TypeId} {n m : Nat} {k : IntKind} {cs : List Value} {zss : List (List Int)} {p : List MemPlace}
    (ht : P.underlying t = some (.array n e)) (he : P.underlying e = some (.array m i)) (hi : P.underlying i = some (.int k)) (hci : P.cellsOf i = 1) (hce : P.cellsOf e = m) (hct : P.cellsOf t = n * m)
    (h : DataW.trod enc P w base sp held fuel t cs = some (.agg (zss.map fun zs => tabData k zs), p)) : ∀ a (ha : a < zss.length), ((cs.drop (a * m)).take m) = zss[a].map fun z => Value.int k z := by
  cases fuel with
  | zero => simp [DataW.trod] at h
  | succ fuel =>
    simp only [DataW.trod, ht, hce] at h
    split at h
    · rename_i hl
      obtain ⟨xs, hm, hx⟩ := Option.map_eq_some_iff.1 h
      have hxs : xs.map (·.1) = zss.map fun zs => (tabData k zs : DataW H) := by
        have := congrArg Prod.fst hx
        simpa using this
      have hxl : xs.length = n := by simpa using mapM_length hm
      have hzl : zss.length = n := by
        have := congrArg List.length hxs
        simp at this
        omega
      intro a ha
      obtain ⟨b, hb, hf⟩ := mapM_at hm a a (by simp [hzl ▸ ha])
      have h2 : (xs.map (·.1))[a]? = some b.1 := by simp [hb]
      rw [hxs] at h2
      simp only [List.getElem?_map] at h2
      rw [List.getElem?_eq_getElem ha] at h2
      have h3 : b.1 = tabData k zss[a] := (Option.some.inj h2).symm
      have h4 : DataW.trod enc P w base sp held fuel e ((cs.drop (a * m)).take m) = some (tabData k zss[a], b.2) := by rw [hf, ← h3]
      exact cells_of_tab he hi hci hce h4
    · cases h
/-- A table of tables: what a walk reads at a place of it. -/
theorem LaidAt.tabs {P : Program} {W : World} {name : String} {k : IntKind} {zss : List (List Int)} {g : Nat} {t e i : TypeId} {n m : Nat}
    (hg : P.globalNamed name = some g) (hty : (P.globals[g]?).map (·.type) = some t) (ht : P.underlying t = some (.array n e)) (he : P.underlying e = some (.array m i)) (hi : P.underlying i = some (.int k)) (hci : P.cellsOf i = 1) (hce : P.cellsOf e = m) (hct : P.cellsOf t = n * m)
    (h : LaidAt P W name (.agg (zss.map fun zs => tabData k zs))) (a b : Nat) (ha : a < zss.length) (hb : b < zss[a].length) (hbm : b < m) : W.cell? ⟨g, a * m + b, none⟩ = some (.int k zss[a][b]) := by
  obtain ⟨g', t', cs, fuel, p, hg', ht', hvar, hd⟩ := h
  obtain rfl := Option.some.inj (hg.symm.trans hg')
  obtain rfl := Option.some.inj (hty.symm.trans ht')
  have h1 := cells_of_tabs ht he hi hci hce hct hd a ha
  have h2 : cs[a * m + b]? = some (.int k zss[a][b]) := by
    have := congrArg (·[b]?) h1
    simp only [List.getElem?_take, List.getElem?_drop, List.getElem?_map] at this
    rw [if_pos hbm, List.getElem?_eq_getElem hb] at this
    simpa using this
  have h3 := World.var?_cell hg hvar (a * m + b)
  rw [h3, h2]
/-- A variable of an interface type that holds a value. -/
theorem LaidAt.iface {P : Program} {W : World} {name : String} {s : String} {x : DataW Unit} {g : Nat} {t : TypeId} {ms : Array (String × TypeId)}
    (hg : P.globalNamed name = some g) (hty : (P.globals[g]?).map (·.type) = some t) (ht : P.underlying t = some (.interface ms))
    (h : LaidAt P W name (.iface s x)) : ∃ tp p, W.var? P name = some #[.iface tp p] := by
  obtain ⟨g', t', cs, fuel, p, hg', ht', hvar, hd⟩ := h
  obtain rfl := Option.some.inj (hg.symm.trans hg')
  obtain rfl := Option.some.inj (hty.symm.trans ht')
  cases fuel with
  | zero => simp [DataW.trod] at hd
  | succ fuel =>
    unfold DataW.trod at hd
    simp only [ht] at hd
    have hcs : ∃ u v, cs.toList = [.iface u v] := by
      split at hd
      all_goals first | (simp at hd; done) | skip
      all_goals first | (rename_i hm; simp at hm; done) | skip
      all_goals first | exact ⟨_, _, ‹_›⟩ | simp_all
    obtain ⟨u, v, hcs⟩ := hcs
    refine ⟨u, v, ?_⟩
    rw [hvar]
    congr 1
    exact Array.toList_inj.1 hcs
end Go.Tab
namespace Go.Tab
/-- The list, where no entry is a function's handle. -/
theorem met_of {P : Program} {L : List (String × DataW Unit)} {W : World} (h : laidMetH P L W) (hf : (L.filter fun x => x.2.handleName?.isSome) = []) : laidMet P L W := by
  unfold laidMetH at h
  rw [hf] at h
  exact h
/-- A datum's cells, where it is made of numbers alone. -/
def flatD : Nat → DataW Unit → List Value
  | 0, _ => []
  | _ + 1, .lit (.int k z) => [.int k z]
  | n + 1, .agg xs => xs.flatMap (flatD n)
  | _, _ => []
/-- A heap in which a listed variable is laid. -/
def layVar (P : Program) (h : Array Obj) (nd : String × DataW Unit) : Array Obj :=
  match P.globalNamed nd.1, flatD 4 nd.2 with
  | some g, v :: vs => h.modify g fun o => match o with
    | .cells _ t f => .cells (v :: vs).toArray t f
    | o => o
  | _, _ => h
def layAll (P : Program) (L : List (String × DataW Unit)) (h : Array Obj) : Array Obj := L.foldl (layVar P) h
end Go.Tab

/- What a row's list of laid variables gives, over any program: a table of texts; a heap in which numbers and texts are laid. -/
namespace Go.Tab
open Go.Lib

/-- An array of texts that reads as the table holds the table's texts, cell for cell. -/
theorem cells_of_strs {H : Type} {enc : TypeId × Value → H} {P : Program} {w : World} {base : Nat} {sp : Nat → Bool} {held : Bool} {fuel : Nat} {t e : TypeId} {n : Nat} {cs : List Value} {zs : List (List UInt8)} {p : List MemPlace}
    (ht : P.underlying t = some (.array n e)) (he : P.underlying e = some .string) (hce : P.cellsOf e = 1) (hct : P.cellsOf t = n)
    (h : DataW.trod enc P w base sp held fuel t cs = some (.agg (zs.map fun z => (.lit (.string z) : DataW H)), p)) : ∀ i (hi : i < zs.length), cs[i]? = some (Value.string ⟨zs[i].toArray⟩) := by
  cases fuel with
  | zero => simp [DataW.trod] at h
  | succ fuel =>
    simp only [DataW.trod, ht, hce, hct, Nat.mul_one] at h
    split at h
    · rename_i hl
      obtain ⟨xs, hm, hx⟩ := Option.map_eq_some_iff.1 h
      have hxs : xs.map (·.1) = zs.map fun z => (DataW.lit (.string z) : DataW H) := by
        have := congrArg Prod.fst hx
        simpa using this
      have hxl : xs.length = n := by simpa using mapM_length hm
      have hzl : zs.length = n := by
        have := congrArg List.length hxs
        simp at this
        omega
      intro i hi
      obtain ⟨b, hb, hf⟩ := mapM_at hm i i (by simp [hzl ▸ hi])
      obtain ⟨s, hc, rfl, _⟩ := DataW.trod_string he hf
      have h1 : cs[i]? = some (.string s) := by
        have := congrArg (·[0]?) hc
        simpa [List.getElem?_take, List.getElem?_drop] using this
      have h2 : (xs.map (·.1))[i]? = some (DataW.lit (.string s.data.toList) : DataW H) := by simp [hb]
      rw [hxs] at h2
      simp only [List.getElem?_map, List.getElem?_eq_getElem hi, Option.map_some, Option.some.injEq, DataW.lit.injEq, Lit.string.injEq] at h2
      rw [h1, h2]
    · cases h
theorem LaidAt.strs {P : Program} {W : World} {name : String} {zs : List (List UInt8)} {g : Nat} {t e : TypeId} {n : Nat}
    (hg : P.globalNamed name = some g) (hty : (P.globals[g]?).map (·.type) = some t) (ht : P.underlying t = some (.array n e)) (he : P.underlying e = some .string) (hce : P.cellsOf e = 1) (hct : P.cellsOf t = n)
    (h : LaidAt P W name (.agg (zs.map fun z => .lit (.string z)))) (i : Nat) (hi : i < zs.length) : W.cell? ⟨g, i, none⟩ = some (.string ⟨zs[i].toArray⟩) := by
  obtain ⟨g', t', cs, fuel, p, hg', ht', hvar, hd⟩ := h
  obtain rfl := Option.some.inj (hg.symm.trans hg')
  obtain rfl := Option.some.inj (hty.symm.trans ht')
  have h2 := cells_of_strs ht he hce hct hd i hi
  have h3 := World.var?_cell hg hvar i
  rw [h3]
  simpa using h2
/-- A datum's cells, where it is made of numbers and texts. -/
def flatS : Nat → DataW Unit → List Value
  | 0, _ => []
  | _ + 1, .lit (.int k z) => [.int k z]
  | _ + 1, .lit (.string s) => [.string ⟨s.toArray⟩]
  | n + 1, .agg xs => xs.flatMap (flatS n)
  | _, _ => []
def layVarS (P : Program) (h : Array Obj) (nd : String × DataW Unit) : Array Obj :=
  match P.globalNamed nd.1, flatS 4 nd.2 with
  | some g, v :: vs => h.modify g fun o => match o with
    | .cells _ t f => .cells (v :: vs).toArray t f
    | o => o
  | _, _ => h
def layAllS (P : Program) (L : List (String × DataW Unit)) (h : Array Obj) : Array Obj := L.foldl (layVarS P) h
end Go.Tab

/- What the rows' lists of layers 12 and up give: the tables that the lexer reads (layer 12). -/
namespace Go.Proofs.YtjlikcfabekhlaaDoor
open Go.RowKit Go.Tab

def stepsZ : List (List Int) := [[1, 9, 2, 3, 9, 9, 9], [9, 9, 2, 3, 9, 9, 9], [9, 9, 9, 9, 4, 6, 9], [9, 9, 3, 3, 4, 6, 9], [9, 9, 5, 5, 9, 9, 9], [9, 9, 5, 5, 9, 6, 9], [7, 7, 8, 8, 9, 9, 9], [9, 9, 8, 8, 9, 9, 9], [9, 9, 8, 8, 9, 9, 9]]
theorem steps_are : ∀ j : Fin 63, ((stepsZ.getD (j.val / 7) []).getD (j.val % 7) 0) = ((stepsN.getD j.val 9 : Nat) : Int) := by decide +kernel
theorem gSteps : Tryd.prog.globalNamed "tabularium/num.steps" = some 2 := by kernel_rfl
theorem tSteps : (Tryd.prog.globals[2]?).map (·.type) = some 83 := by kernel_rfl
theorem c1 : Tryd.prog.cellsOf 3 = 1 := by kernel_rfl
theorem c7 : Tryd.prog.cellsOf 82 = 7 := by kernel_rfl
theorem c63 : Tryd.prog.cellsOf 83 = 9 * 7 := by kernel_rfl
theorem dSteps : (Rows.laid_tabularium_num_steps : DataW Unit) = .agg (stepsZ.map fun zs => Lib.tabData .i64 zs) := by kernel_rfl
theorem rows7 : ∀ a : Fin 9, (stepsZ.getD a.val []).length = 7 := by decide +kernel
theorem gTab : Tryd.prog.globalNamed "tabularium/utf.sizes" = some 3 := by kernel_rfl
theorem gTabType : (Tryd.prog.globals[3]?).map (·.type) = some 122 := by kernel_rfl
theorem cellsTab : Tryd.prog.cellsOf 122 = 32 := by kernel_rfl
def sizesZ : List Int := [1, 1, 1, 1, 1, 1, 1, 1, 1, 1, 1, 1, 1, 1, 1, 1, 0, 0, 0, 0, 0, 0, 0, 0, 2, 2, 2, 2, 3, 3, 4, 0]
theorem sizes_are : ∀ j : Fin 32, sizesZ.getD j.val 0 = ((sizeOf8 (8 * j.val) : Nat) : Int) := by decide +kernel
theorem dSizes : (Rows.laid_tabularium_utf_sizes : DataW Unit) = Lib.tabData .i64 sizesZ := by kernel_rfl
theorem gDbl : Tryd.prog.globalNamed "tabularium/lex.doubles" = some 0 := by kernel_rfl
theorem tDbl : (Tryd.prog.globals[0]?).map (·.type) = some 81 := by kernel_rfl
theorem cStr1 : Tryd.prog.cellsOf 9 = 1 := by kernel_rfl
theorem c6 : Tryd.prog.cellsOf 81 = 6 := by kernel_rfl
theorem dDbl : (Rows.laid_tabularium_lex_doubles : DataW Unit) = .agg (dbls.map fun z => .lit (.string z)) := by kernel_rfl
theorem dbl6 : dbls.length = 6 := by decide +kernel
theorem lexT_of {L : List (String × DataW Unit)} {W : World} (hL : laidMetH Tryd.prog L W) (hf : (L.filter fun x => x.2.handleName?.isSome) = []) (hsh : W.ShapedOpen Tryd.prog)
    (h1 : ("tabularium/utf.sizes", Rows.laid_tabularium_utf_sizes) ∈ L) (h2 : ("tabularium/num.steps", Rows.laid_tabularium_num_steps) ∈ L) (h3 : ("tabularium/lex.doubles", Rows.laid_tabularium_lex_doubles) ∈ L) : LexT W := by
  have met := met_of hL hf
  have l1 := laid_of_met met h1
  have l2 := laid_of_met met h2
  have l3 := laid_of_met met h3
  rw [dSizes] at l1
  rw [dSteps] at l2
  rw [dDbl] at l3
  refine ⟨fun j hj => ?_, fun j hj => ?_, fun j hj => ?_, ?_⟩
  · have t := l1.tab gTab gTabType Tryd.underlying122 Tryd.underlying3 c1 cellsTab
    have hc := t.cell gTab j (by simpa [sizesZ] using hj)
    rw [hc, show sizesZ.getD j 0 = _ from sizes_are ⟨j, hj⟩]
  · have ha : j / 7 < stepsZ.length := by show j / 7 < 9; omega
    have hg : stepsZ.getD (j / 7) [] = stepsZ[j / 7] := by rw [List.getD_eq_getElem?_getD, List.getElem?_eq_getElem ha]; rfl
    have hr := rows7 ⟨j / 7, ha⟩
    simp only [hg] at hr
    have hb : j % 7 < (stepsZ[j / 7]).length := by rw [hr]; omega
    have h3 := l2.tabs gSteps tSteps Tryd.underlying83 Tryd.underlying82 Tryd.underlying3 c1 c7 c63 (j / 7) (j % 7) ha hb (by omega)
    rw [show j / 7 * 7 + j % 7 = j by omega] at h3
    rw [h3]
    have h4 := steps_are ⟨j, hj⟩
    simp only [hg] at h4
    rw [List.getD_eq_getElem?_getD, List.getElem?_eq_getElem hb] at h4
    rw [← h4]
    rfl
  · have h := l3.strs gDbl tDbl Tryd.underlying81 Tryd.underlying9 cStr1 c6 j (by rw [dbl6]; exact hj)
    rw [h, List.getD_eq_getElem?_getD, List.getElem?_eq_getElem (by rw [dbl6]; exact hj)]
    rfl
  · exact cell_of_shapedOpen_int (t := 3) (zero := #[.int .i64 0]) hsh (by decide +kernel) (by kernel_rfl) rfl (by kernel_rfl) (by kernel_rfl) Tryd.underlying3
theorem tab_of_ExprSame {W : World} (hL : laidMetH Tryd.prog Rows.exprSameRow.laid W) (hsh : W.ShapedOpen Tryd.prog) : LexT W := lexT_of hL (by kernel_rfl) hsh (.tail _ (.head _)) (.tail _ (.tail _ (.head _))) (.tail _ (.tail _ (.tail _ (.head _))))
theorem tab_of_ExprLevels {W : World} (hL : laidMetH Tryd.prog Rows.exprLevelsRow.laid W) (hsh : W.ShapedOpen Tryd.prog) : LexT W := lexT_of hL (by kernel_rfl) hsh (.tail _ (.head _)) (.tail _ (.tail _ (.head _))) (.tail _ (.tail _ (.tail _ (.head _))))
end Go.Proofs.YtjlikcfabekhlaaDoor
