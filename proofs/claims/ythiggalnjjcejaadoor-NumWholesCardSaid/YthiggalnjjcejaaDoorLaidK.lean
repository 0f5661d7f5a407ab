/- What a row's list of laid variables gives, entry by entry, over any program: a table of numbers, a table of tables, an error's place. -/
import Derived.Lib.LaidTab
namespace Go.Tab
set_option linter.unusedSimpArgs false
set_option linter.unusedVariables false
open Go.Lib

/-- An entry of the list: its variable reads as the datum. -/
def LaidAt (P : Program) (W : World) (n : String) (d : DataW Unit) : Prop :=
  ∃ g t cs fuel p, P.globalNamed n = some g ∧ (P.globals[g]?).map (·.type) = some t ∧ W.var? P n = some cs ∧ DataW.trod (fun _ => ()) P W 0 (fun _ => true) false fuel t cs.toList = some (d, p)
theorem laid_vars {P : Program} {W : World} : ∀ {L : List (String × DataW Unit)} {ps : List MemPlace}, DataW.LaidVars P W L ps → ∀ n d, (n, d) ∈ L → LaidAt P W n d
  | [], _, _, _, _, h => by cases h
  | (n', d') :: L, _, h0, n, d, h => by
    obtain ⟨g, t, cs, fuel, p, q, h1, h2, h3, h4, h5, _⟩ := h0
    rcases List.mem_cons.1 h with h | h
    · cases h; exact ⟨g, t, cs, fuel, p, h1, h2, h3, h4⟩
    · exact laid_vars h5 n d h
theorem laid_of_met {P : Program} {W : World} {L : List (String × DataW Unit)} (h : laidMet P L W) {n : String} {d : DataW Unit} (hm : (n, d) ∈ L) : LaidAt P W n d := by
  obtain ⟨ps, h1, _⟩ := h
  exact laid_vars h1 n d hm
/-- A table of numbers. -/
theorem LaidAt.tab {P : Program} {W : World} {name : String} {k : IntKind} {zs : List Int} {g : Nat} {t e : TypeId} {n : Nat}
    (hg : P.globalNamed name = some g) (hty : (P.globals[g]?).map (·.type) = some t) (ht : P.underlying t = some (.array n e)) (he : P.underlying e = some (.int k)) (hce : P.cellsOf e = 1) (hct : P.cellsOf t = n)
    (h : LaidAt P W name (tabData k zs)) : TabIs P W name k zs := by
  obtain ⟨g', t', cs, fuel, p, hg', ht', hvar, hd⟩ := h
  obtain rfl := Option.some.inj (hg.symm.trans hg')
  obtain rfl := Option.some.inj (hty.symm.trans ht')
  unfold TabIs
  rw [hvar, ← cells_of_tab ht he hce hct hd]
/-- An array of arrays of numbers that reads as the table's rows. -/
theorem cells_of_tabs {H : Type} {enc : TypeId × Value → H} {P : Program} {w : World} {base : Nat} {sp : Nat → Bool} {held : Bool} {fuel : Nat} {t e i : TypeId} {n m : Nat} {k : IntKind} {cs : List Value} {zss : List (List Int)} {p : List MemPlace}
    (ht : P.underlying t = some (.array n e)) (he : P.underlying e = some (.array m i)) (hi : P.underlying i = some (.int k)) (hci : P.cellsOf i = 1) (hce : P.cellsOf e = m) (hct : P.cellsOf t = n * m)
    (h : DataW.trod enc P w base sp held fuel t cs = some (.agg (zss.map fun zs => tabData k zs), p)) : ∀ a (ha : a < zss.length), ((cs.drop (a * m)).take m) = zss[a].map fun z => Value.int k z := by
  cases fuel with
  | zero => simp [DataW.trod] at h
  | succ fuel =>
    simp only [DataW.trod, ht, hce] at h
    split at h
    · rename_i hl
      obtain ⟨xs, hm, hx⟩ := Option.map_eq_some_iff.1 h
      have hxs : xs.map (·.1) = zss.map fun zs => (tabData k zs : DataW H) := by
        have := congrArg Prod.fst hx
        simpa using this
      have hxl : xs.length = n := by simpa using mapM_length hm
      have hzl : zss.length = n := by
        have := congrArg List.length hxs
        simp at this
        omega
      intro a ha
      obtain ⟨b, hb, hf⟩ := mapM_at hm a a (by simp [hzl ▸ ha])
      have h2 : (xs.map (·.1))[a]? = some b.1 := by simp [hb]
      rw [hxs] at h2
      simp only [List.getElem?_map] at h2
      rw [List.getElem?_eq_getElem ha] at h2
      have h3 : b.1 = tabData k zss[a] := (Option.some.inj h2).symm
      have h4 : DataW.trod enc P w base sp held fuel e ((cs.drop (a * m)).take m) = some (tabData k zss[a], b.2) := by rw [hf, ← h3]
      exact cells_of_tab he hi hci hce h4
    · cases h
/-- A table of tables: what a walk reads at a place of it. -/
theorem LaidAt.tabs {P : Program} {W : World} {name : String} {k : IntKind} {zss : List (List Int)} {g : Nat} {t e i : TypeId} {n m : Nat}
    (hg : P.globalNamed name = some g) (hty : (P.globals[g]?).map (·.type) = some t) (ht : P.underlying t = some (.array n e)) (he : P.underlying e = some (.array m i)) (hi : P.underlying i = some (.int k)) (hci : P.cellsOf i = 1) (hce : P.cellsOf e = m) (hct : P.cellsOf t = n * m)
    (h : LaidAt P W name (.agg (zss.map fun zs => tabData k zs))) (a b : Nat) (ha : a < zss.length) (hb : b < zss[a].length) (hbm : b < m) : W.cell? ⟨g, a * m + b, none⟩ = some (.int k zss[a][b]) := by
  obtain ⟨g', t', cs, fuel, p, hg', ht', hvar, hd⟩ := h
  obtain rfl := Option.some.inj (hg.symm.trans hg')
  obtain rfl := Option.some.inj (hty.symm.trans ht')
  have h1 := cells_of_tabs ht he hi hci hce hct hd a ha
  have h2 : cs[a * m + b]? = some (.int k zss[a][b]) := by
    have := congrArg (·[b]?) h1
    simp only [List.getElem?_take, List.getElem?_drop, List.getElem?_map] at this
    rw [if_pos hbm, List.getElem?_eq_getElem hb] at this
    simpa using this
  have h3 := World.var?_cell hg hvar (a * m + b)
  rw [h3, h2]
/-- A variable of an interface type that holds a value. -/
theorem LaidAt.iface {P : Program} {W : World} {name : String} {s : String} {x : DataW Unit} {g : Nat} {t : TypeId} {ms : Array (String × TypeId)}
    (hg : P.globalNamed name = some g) (hty : (P.globals[g]?).map (·.type) = some t) (ht : P.underlying t = some (.interface ms))
    (h : LaidAt P W name (.iface s x)) : ∃ tp p, W.var? P name = some #[.iface tp p] := by
  obtain ⟨g', t', cs, fuel, p, hg', ht', hvar, hd⟩ := h
  obtain rfl := Option.some.inj (hg.symm.trans hg')
  obtain rfl := Option.some.inj (hty.symm.trans ht')
  cases fuel with
  | zero => simp [DataW.trod] at hd
  | succ fuel =>
    unfold DataW.trod at hd
    simp only [ht] at hd
    have hcs : ∃ u v, cs.toList = [.iface u v] := by
      split at hd
      all_goals first | (simp at hd; done) | skip
      all_goals first | (rename_i hm; simp at hm; done) | skip
      all_goals first | exact ⟨_, _, ‹_›⟩ | simp_all
    obtain ⟨u, v, hcs⟩ := hcs
    refine ⟨u, v, ?_⟩
    rw [hvar]
    congr 1
    exact Array.toList_inj.1 hcs
end Go.Tab
namespace Go.Tab
/-- The list, where no entry is a function's handle. -/
theorem met_of {P : Program} {L : List (String × DataW Unit)} {W : World} (h : laidMetH P L W) (hf : (L.filter fun x => x.2.handleName?.isSome) = []) : laidMet P L W := by
  unfold laidMetH at h
  rw [hf] at h
  exact h
/-- A datum's cells, where it is made of numbers alone. -/
def flatD : Nat → DataW Unit → List Value
  | 0, _ => []
  | _ + 1, .lit (.int k z) => [.int k z]
  | n + 1, .agg xs => xs.flatMap (flatD n)
  | _, _ => []
/-- A heap in which a listed variable is laid. -/
def layVar (P : Program) (h : Array Obj) (nd : String × DataW Unit) : Array Obj :=
  match P.globalNamed nd.1, flatD 4 nd.2 with
  | some g, v :: vs => h.modify g fun o => match o with
    | .cells _ t f => .cells (v :: vs).toArray t f
    | o => o
  | _, _ => h
def layAll (P : Program) (L : List (String × DataW Unit)) (h : Array Obj) : Array Obj := L.foldl (layVar P) h
end Go.Tab
