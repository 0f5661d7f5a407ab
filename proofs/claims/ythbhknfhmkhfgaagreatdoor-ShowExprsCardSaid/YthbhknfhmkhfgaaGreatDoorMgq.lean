/- Texts of this claim, one behind the other: ShF, AlW, ShPa, LaidK, LaidS, ExZ. -/
import Derived.Test.YthbhknfhmkhfgaaGreatDoorMgg
import Derived.Test.YthbhknfhmkhfgaaGreatDoorMgh
import Derived.Test.YthbhknfhmkhfgaaGreatDoorMgi
import Derived.Test.YthbhknfhmkhfgaaGreatDoorMgj
import Derived.Test.YthbhknfhmkhfgaaGreatDoorMgn
import Derived.Test.YthbhknfhmkhfgaaGreatDoorMgp
import Derived.Deep.RegionHeld3
import Derived.Lib.LaidTab
import Derived.Test.YthbhknfhmkhfgaaGreatDoorRows
import Derived.Shelf.Vars
set_option linter.unusedSimpArgs false
set_option linter.unusedVariables false
namespace Go.Proofs.YthbhknfhmkhfgaaGreatDoor
set_option maxRecDepth 100000
set_option maxHeartbeats 20000000
end Go.Proofs.YthbhknfhmkhfgaaGreatDoor
namespace Go.Proofs.YthbhknfhmkhfgaaGreatDoor
set_option maxRecDepth 100000
set_option maxHeartbeats 20000000
open Go.RowKit Go.Tab
end Go.Proofs.YthbhknfhmkhfgaaGreatDoor
namespace Go.Tab
set_option maxRecDepth 100000
set_option maxHeartbeats 20000000
open Go.Lib
def LaidAt (P : Program) (W : World) (n : String) (d : DataW Unit) : Prop :=
 ∃ g t cs fuel p, P.globalNamed n = some g /\ (P.globals[g]?).map (·.type) = some t /\ W.var? P n = some cs /\ DataW.trod (fun _ => ()) P W 0 (fun _ => true) false fuel t cs.toList = some (d, p)
theorem laid_vars {P : Program} {W : World} : ∀ {L : List (String × DataW Unit)} {ps : List MemPlace}, DataW.LaidVars P W L ps -> ∀ n d, (n, d) ∈ L -> LaidAt P W n d
 | [], _, _, _, _, h => by cases h
 | (n', d') :: L, _, h0, n, d, h => by
  obtain ⟨g, t, cs, fuel, p, q, h1, h2, h3, h4, h5, _⟩ := h0; rcases List.mem_cons.1 h with h | h
  ·cases h; exact ⟨g, t, cs, fuel, p, h1, h2, h3, h4⟩
  ·exact laid_vars h5 n d h
theorem laid_of_met {P : Program} {W : World} {L : List (String × DataW Unit)} (h : laidMet P L W) {n : String} {d : DataW Unit} (hm : (n, d) ∈ L) : LaidAt P W n d := by
 obtain ⟨ps, h1, _⟩ := h; exact laid_vars h1 n d hm
theorem LaidAt.tab {P : Program} {W : World} {name : String} {k : IntKind} {zs : List Int} {g : Nat} {t e : TypeId} {n : Nat}
  (hg : P.globalNamed name = some g) (hty : (P.globals[g]?).map (·.type) = some t) (ht : P.underlying t = some (.array n e)) (he : P.underlying e = some (.int k)) (hce : P.cellsOf e = 1) (hct : P.cellsOf t = n)
  (h : LaidAt P W name (tabData k zs)) : TabIs P W name k zs := by
 obtain ⟨g', t', cs, fuel, p, hg', ht', hvar, hd⟩ := h; obtain rfl := Option.some.inj (hg.symm.trans hg'); obtain rfl := Option.some.inj (hty.symm.trans ht'); unfold TabIs; rw [hvar, <- cells_of_tab ht he hce hct hd]
theorem cells_of_tabs {H : Type} {enc : TypeId × Value -> H} {P : Program} {w : World} {base : Nat} {sp : Nat -> Bool} {held : Bool} {fuel : Nat} {t e i : TypeId} {n m : Nat} {k : IntKind} {cs : List Value} {zss : List (List Int)} {p : List MemPlace}
  (ht : P.underlying t = some (.array n e)) (he : P.underlying e = some (.array m i)) (hi : P.underlying i = some (.int k)) (hci : P.cellsOf i = 1) (hce : P.cellsOf e = m) (hct : P.cellsOf t = n * m)
  (h : DataW.trod enc P w base sp held fuel t cs = some (.agg (zss.map fun zs => tabData k zs), p)) : ∀ a (ha : a < zss.length), ((cs.drop (a * m)).take m) = zss[a].map fun z => Value.int k z := by
 cases fuel with
 | zero => simp [DataW.trod] at h
 | succ fuel =>
  simp only [DataW.trod, ht, hce] at h; split at h
  ·rename_i hl
   obtain ⟨xs, hm, hx⟩ := Option.map_eq_some_iff.1 h
   have hxs : xs.map (·.1) = zss.map fun zs => (tabData k zs : DataW H) := by
    have := congrArg Prod.fst hx
    simpa using this
   have hxl : xs.length = n := by simpa using mapM_length hm
   have hzl : zss.length = n := by
    have := congrArg List.length hxs; simp at this
    omega
   intro a ha; obtain ⟨b, hb, hf⟩ := mapM_at hm a a (by simp [hzl ▸ ha])
   have h2 : (xs.map (·.1))[a]? = some b.1 := by simp [hb]
   rw [hxs] at h2; simp only [List.getElem?_map] at h2; rw [List.getElem?_eq_getElem ha] at h2; have h3 : b.1 = tabData k zss[a] := (Option.some.inj h2).symm; have h4 : DataW.trod enc P w base sp held fuel e ((cs.drop (a * m)).take m) = some (tabData k zss[a], b.2) := by rw [hf, <- h3]
   exact cells_of_tab he hi hci hce h4
  ·cases h
theorem LaidAt.tabs {P : Program} {W : World} {name : String} {k : IntKind} {zss : List (List Int)} {g : Nat} {t e i : TypeId} {n m : Nat}
  (hg : P.globalNamed name = some g) (hty : (P.globals[g]?).map (·.type) = some t) (ht : P.underlying t = some (.array n e)) (he : P.underlying e = some (.array m i)) (hi : P.underlying i = some (.int k)) (hci : P.cellsOf i = 1) (hce : P.cellsOf e = m) (hct : P.cellsOf t = n * m)
  (h : LaidAt P W name (.agg (zss.map fun zs => tabData k zs))) (a b : Nat) (ha : a < zss.length) (hb : b < zss[a].length) (hbm : b < m) : W.cell? ⟨g, a * m + b, none⟩ = some (.int k zss[a][b]) := by
 obtain ⟨g', t', cs, fuel, p, hg', ht', hvar, hd⟩ := h; obtain rfl := Option.some.inj (hg.symm.trans hg'); obtain rfl := Option.some.inj (hty.symm.trans ht'); have h1 := cells_of_tabs ht he hi hci hce hct hd a ha
 have h2 : cs[a * m + b]? = some (.int k zss[a][b]) := by
  have := congrArg (·[b]?) h1; simp only [List.getElem?_take, List.getElem?_drop, List.getElem?_map] at this; rw [if_pos hbm, List.getElem?_eq_getElem hb] at this
  simpa using this
 have h3 := World.var?_cell hg hvar (a * m + b); rw [h3, h2]
end Go.Tab
namespace Go.Tab
set_option maxRecDepth 100000
set_option maxHeartbeats 20000000
theorem met_of {P : Program} {L : List (String × DataW Unit)} {W : World} (h : laidMetH P L W) (hf : (L.filter fun x => x.2.handleName?.isSome) = []) : laidMet P L W := by
 unfold laidMetH at h; rw [hf] at h; exact h
end Go.Tab
namespace Go.Tab
set_option maxRecDepth 100000
set_option maxHeartbeats 20000000
open Go.Lib
theorem cells_of_strs {H : Type} {enc : TypeId × Value -> H} {P : Program} {w : World} {base : Nat} {sp : Nat -> Bool} {held : Bool} {fuel : Nat} {t e : TypeId} {n : Nat} {cs : List Value} {zs : List (List UInt8)} {p : List MemPlace}
  (ht : P.underlying t = some (.array n e)) (he : P.underlying e = some .string) (hce : P.cellsOf e = 1) (hct : P.cellsOf t = n)
  (h : DataW.trod enc P w base sp held fuel t cs = some (.agg (zs.map fun z => (.lit (.string z) : DataW H)), p)) : ∀ i (hi : i < zs.length), cs[i]? = some (Value.string ⟨zs[i].toArray⟩) := by
 cases fuel with
 | zero => simp [DataW.trod] at h
 | succ fuel =>
  simp only [DataW.trod, ht, hce, hct, Nat.mul_one] at h; split at h
  ·rename_i hl
   obtain ⟨xs, hm, hx⟩ := Option.map_eq_some_iff.1 h
   have hxs : xs.map (·.1) = zs.map fun z => (DataW.lit (.string z) : DataW H) := by
    have := congrArg Prod.fst hx
    simpa using this
   have hxl : xs.length = n := by simpa using mapM_length hm
   have hzl : zs.length = n := by
    have := congrArg List.length hxs; simp at this
    omega
   intro i hi; obtain ⟨b, hb, hf⟩ := mapM_at hm i i (by simp [hzl ▸ hi])
   obtain ⟨s, hc, rfl, _⟩ := DataW.trod_string he hf
   have h1 : cs[i]? = some (.string s) := by
    have := congrArg (·[0]?) hc
    simpa [List.getElem?_take, List.getElem?_drop] using this
   have h2 : (xs.map (·.1))[i]? = some (DataW.lit (.string s.data.toList) : DataW H) := by simp [hb]
   rw [hxs] at h2; simp only [List.getElem?_map, List.getElem?_eq_getElem hi, Option.map_some, Option.some.injEq, DataW.lit.injEq, Lit.string.injEq] at h2; rw [h1, h2]
  ·cases h
theorem LaidAt.strs {P : Program} {W : World} {name : String} {zs : List (List UInt8)} {g : Nat} {t e : TypeId} {n : Nat}
  (hg : P.globalNamed name = some g) (hty : (P.globals[g]?).map (·.type) = some t) (ht : P.underlying t = some (.array n e)) (he : P.underlying e = some .string) (hce : P.cellsOf e = 1) (hct : P.cellsOf t = n)
  (h : LaidAt P W name (.agg (zs.map fun z => .lit (.string z)))) (i : Nat) (hi : i < zs.length) : W.cell? ⟨g, i, none⟩ = some (.string ⟨zs[i].toArray⟩) := by
 obtain ⟨g', t', cs, fuel, p, hg', ht', hvar, hd⟩ := h; obtain rfl := Option.some.inj (hg.symm.trans hg'); obtain rfl := Option.some.inj (hty.symm.trans ht'); have h2 := cells_of_strs ht he hce hct hd i hi; have h3 := World.var?_cell hg hvar i; rw [h3]
 simpa using h2
def flatS : Nat -> DataW Unit -> List Value
 | 0, _ => []
 | _ + 1, .lit (.int k z) => [.int k z]
 | _ + 1, .lit (.string s) => [.string ⟨s.toArray⟩]
 | n + 1, .agg xs => xs.flatMap (flatS n)
 | _, _ => []
def layVarS (P : Program) (h : Array Obj) (nd : String × DataW Unit) : Array Obj :=
 match P.globalNamed nd.1, flatS 4 nd.2 with
 | some g, v :: vs => h.modify g fun o => match o with
  | .cells _ t f => .cells (v :: vs).toArray t f
  | o => o
 | _, _ => h
def layAllS (P : Program) (L : List (String × DataW Unit)) (h : Array Obj) : Array Obj := L.foldl (layVarS P) h
end Go.Tab
namespace Go.Proofs.YthbhknfhmkhfgaaGreatDoor
set_option maxRecDepth 100000
set_option maxHeartbeats 20000000
open Go.RowKit Go.Tab
def stepsZ : List (List Int) := [[1, 9, 2, 3, 9, 9, 9], [9, 9, 2, 3, 9, 9, 9], [9, 9, 9, 9, 4, 6, 9], [9, 9, 3, 3, 4, 6, 9], [9, 9, 5, 5, 9, 9, 9], [9, 9, 5, 5, 9, 6, 9], [7, 7, 8, 8, 9, 9, 9], [9, 9, 8, 8, 9, 9, 9], [9, 9, 8, 8, 9, 9, 9]]
theorem steps_are : ∀ j : Fin 63, ((stepsZ.getD (j.val / 7) []).getD (j.val % 7) 0) = ((stepsN.getD j.val 9 : Nat) : Int) := by decide +kernel
theorem gSteps : Tryz.prog.globalNamed "tabularium/num.steps" = some 2 := by kernel_rfl
theorem tSteps : (Tryz.prog.globals[2]?).map (·.type) = some 138 := by kernel_rfl
theorem c1 : Tryz.prog.cellsOf 3 = 1 := by kernel_rfl
theorem c7 : Tryz.prog.cellsOf 137 = 7 := by kernel_rfl
theorem c63 : Tryz.prog.cellsOf 138 = 9 * 7 := by kernel_rfl
theorem dSteps : (Rows.laid_tabularium_num_steps : DataW Unit) = .agg (stepsZ.map fun zs => Lib.tabData .i64 zs) := by kernel_rfl
theorem rows7 : ∀ a : Fin 9, (stepsZ.getD a.val []).length = 7 := by decide +kernel
theorem gTab : Tryz.prog.globalNamed "tabularium/utf.sizes" = some 3 := by kernel_rfl
theorem gTabType : (Tryz.prog.globals[3]?).map (·.type) = some 153 := by kernel_rfl
theorem cellsTab : Tryz.prog.cellsOf 153 = 32 := by kernel_rfl
def sizesZ : List Int := [1, 1, 1, 1, 1, 1, 1, 1, 1, 1, 1, 1, 1, 1, 1, 1, 0, 0, 0, 0, 0, 0, 0, 0, 2, 2, 2, 2, 3, 3, 4, 0]
theorem sizes_are : ∀ j : Fin 32, sizesZ.getD j.val 0 = ((sizeOf8 (8 * j.val) : Nat) : Int) := by decide +kernel
theorem dSizes : (Rows.laid_tabularium_utf_sizes : DataW Unit) = Lib.tabData .i64 sizesZ := by kernel_rfl
theorem gDbl : Tryz.prog.globalNamed "tabularium/lex.doubles" = some 0 := by kernel_rfl
theorem tDbl : (Tryz.prog.globals[0]?).map (·.type) = some 134 := by kernel_rfl
theorem cStr1 : Tryz.prog.cellsOf 9 = 1 := by kernel_rfl
theorem c6 : Tryz.prog.cellsOf 134 = 6 := by kernel_rfl
theorem dDbl : (Rows.laid_tabularium_lex_doubles : DataW Unit) = .agg (dbls.map fun z => .lit (.string z)) := by kernel_rfl
theorem dbl6 : dbls.length = 6 := by decide +kernel
theorem lexT_of {L : List (String × DataW Unit)} {W : World} (hL : laidMetH Tryz.prog L W) (hf : (L.filter fun x => x.2.handleName?.isSome) = []) (hsh : W.ShapedOpen Tryz.prog)
  (h1 : ("tabularium/utf.sizes", Rows.laid_tabularium_utf_sizes) ∈ L) (h2 : ("tabularium/num.steps", Rows.laid_tabularium_num_steps) ∈ L) (h3 : ("tabularium/lex.doubles", Rows.laid_tabularium_lex_doubles) ∈ L) : LexT W := by
 have met := met_of hL hf; have l1 := laid_of_met met h1; have l2 := laid_of_met met h2; have l3 := laid_of_met met h3; rw [dSizes] at l1; rw [dSteps] at l2; rw [dDbl] at l3; refine ⟨fun j hj => ?_, fun j hj => ?_, fun j hj => ?_, ?_⟩
 ·have t := l1.tab gTab gTabType Tryz.underlying153 Tryz.underlying3 c1 cellsTab
  have hc := t.cell gTab j (by simpa [sizesZ] using hj)
  rw [hc, show sizesZ.getD j 0 = _ from sizes_are ⟨j, hj⟩]
 ·have ha : j / 7 < stepsZ.length := by show j / 7 < 9; omega
  have hg : stepsZ.getD (j / 7) [] = stepsZ[j / 7] := by rw [List.getD_eq_getElem?_getD, List.getElem?_eq_getElem ha]; rfl
  have hr := rows7 ⟨j / 7, ha⟩; simp only [hg] at hr; have hb : j % 7 < (stepsZ[j / 7]).length := by rw [hr]; omega
  have h3 := l2.tabs gSteps tSteps Tryz.underlying138 Tryz.underlying137 Tryz.underlying3 c1 c7 c63 (j / 7) (j % 7) ha hb (by omega)
  rw [show j / 7 * 7 + j % 7 = j by omega] at h3
  rw [h3]; have h4 := steps_are ⟨j, hj⟩; simp only [hg] at h4; rw [List.getD_eq_getElem?_getD, List.getElem?_eq_getElem hb] at h4; rw [<- h4]; rfl
 ·have h := l3.strs gDbl tDbl Tryz.underlying134 Tryz.underlying9 cStr1 c6 j (by rw [dbl6]; exact hj)
  rw [h, List.getD_eq_getElem?_getD, List.getElem?_eq_getElem (by rw [dbl6]; exact hj)]
  rfl
 ·exact cell_of_shapedOpen_int (t := 3) (zero := #[.int .i64 0]) hsh (by decide +kernel) (by kernel_rfl) rfl (by kernel_rfl) (by kernel_rfl) Tryz.underlying3
theorem tab_of_ShowLeast {W : World} (hL : laidMetH Tryz.prog Rows.showLeastRow.laid W) (hsh : W.ShapedOpen Tryz.prog) : LexT W := lexT_of hL (by kernel_rfl) hsh (.tail _ (.head _)) (.tail _ (.tail _ (.head _))) (.tail _ (.tail _ (.tail _ (.head _))))
theorem tab_of_ShowExprs {W : World} (hL : laidMetH Tryz.prog Rows.showExprsRow.laid W) (hsh : W.ShapedOpen Tryz.prog) : LexT W := lexT_of hL (by kernel_rfl) hsh (.tail _ (.head _)) (.tail _ (.tail _ (.head _))) (.tail _ (.tail _ (.tail _ (.head _))))
end Go.Proofs.YthbhknfhmkhfgaaGreatDoor
