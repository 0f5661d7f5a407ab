/- Rows of cells that are read or owned, as lists; laws of the walk on them, over any program. No program of a seat is named here. -/
import Derived.WalkKit
import Derived.WalkSpells
import Derived.WalkLawsBesides
import Derived.Outline
import Derived.Lib.Hide
import Derived.Lib.SlBytesConst
import Derived.BigQuiet
import Derived.Deep.QuietTactic
import Derived.Deep.RegionWith
import Derived.Laws.AppendOwnNone
import Derived.Deep.DeepCutAuto
import Derived.StillTailTactics
import Derived.Deep.RegionHeld3
import Derived.Deep.CutBlock
import Derived.Deep.LoopGhost
import Derived.Laws.CopyOwn
import Derived.Deep.RegionLaw
namespace Go.Tab
set_option linter.unusedSimpArgs false
set_option linter.unusedVariables false
open Go.RowKit

/-- v reads, in w, as the list l, each element one cell. -/
def RowOf {α : Type} (f : α → Value) (w : World) (v : Value) (l : List α) : Prop :=
  ∃ a cap, v = .slice a l.length cap ∧ l.length ≤ cap ∧ cap ≤ maxLen ∧ (a = none → cap = 0) ∧
    ∀ x, a = some x → l ≠ [] → x.spot = none ∧ x.block < w.heap.size ∧ ∀ j (h : j < l.length), w.cell? ⟨x.block, x.off + j, none⟩ = some (f l[j])

abbrev byteV (c : UInt8) : Value := .int .u8 (c.toNat : Int)
abbrev BytesAt := RowOf byteV

section
variable {α : Type} {f : α → Value} {w w' : World} {v : Value} {l : List α}

theorem RowOf.nil : RowOf f w (.slice none 0 0) [] := ⟨none, 0, rfl, Nat.le_refl _, by decide, fun _ => rfl, fun x h => by cases h⟩
theorem RowOf.empty {a : Option Addr} {cap : Nat} (h1 : cap ≤ maxLen) (h2 : a = none → cap = 0) : RowOf f w (.slice a 0 cap) [] := ⟨a, cap, rfl, Nat.zero_le _, h1, h2, fun _ _ h => absurd rfl h⟩

theorem RowOf.len (h : RowOf f w v l) : ∃ a cap, v = .slice a l.length cap ∧ l.length ≤ cap ∧ cap ≤ maxLen ∧ (a = none → cap = 0) := by
  obtain ⟨a, cap, h1, h2, h3, h4, _⟩ := h
  exact ⟨a, cap, h1, h2, h3, h4⟩

theorem RowOf.at {a : Option Addr} {n cap : Nat} (h : RowOf f w (.slice a n cap) l) {j : Nat} (hj : j < l.length) :
    ∃ b off, a = some ⟨b, off, none⟩ ∧ b < w.heap.size ∧ ∀ j (h : j < l.length), w.cell? ⟨b, off + j, none⟩ = some (f l[j]) := by
  obtain ⟨a', cap', h1, h2, h3, h4, h5⟩ := h
  cases h1
  cases a with
  | none => have := h4 rfl; omega
  | some x =>
    obtain ⟨b, off, sp⟩ := x
    obtain ⟨rfl, h6, h7⟩ := h5 _ rfl (by intro h0; subst h0; simp at hj)
    exact ⟨b, off, rfl, h6, h7⟩

theorem RowOf.moved (h : RowOf f w v l) (hs : w.heap.size ≤ w'.heap.size) (hc : ∀ b off, b < w.heap.size → v.ownBlock = some b → w'.cell? ⟨b, off, none⟩ = w.cell? ⟨b, off, none⟩) : RowOf f w' v l := by
  obtain ⟨a, cap, rfl, h2, h3, h4, h5⟩ := h
  refine ⟨a, cap, rfl, h2, h3, h4, fun x hx hl => ?_⟩
  obtain ⟨h6, h7, h8⟩ := h5 x hx hl
  subst hx
  exact ⟨h6, by omega, fun j hj => by rw [hc _ _ h7 rfl]; exact h8 j hj⟩

theorem RowOf.alloc (h : RowOf f w v l) (o : Obj) : RowOf f (w.alloc o) v l :=
  h.moved (by simp) fun b off hx _ => World.cell?_alloc_past _ _ _ hx

theorem RowOf.drew (h : RowOf f w v l) : RowOf f w.drew v l := h
theorem RowOf.drewN (h : RowOf f w v l) (n : Nat) : RowOf f (w.drewN n) v l := h

theorem RowOf.below {B : Nat} (h : RowOf f w v l) (hb : Below B w w') (hB : w.heap.size ≤ B) : RowOf f w' v l :=
  h.moved hb.size fun b off hx _ => hb.cell (by show b < B; omega)

/-- behind a write to blocks from B on; the row lies below B. -/
theorem RowOf.under {B : Nat} (h : RowOf f w v l) (hb : Below B w w') (hB : ∀ k, v.ownBlock = some k → k < B) : RowOf f w' v l :=
  h.moved hb.size fun b off _ hv => hb.cell (hB _ hv)

theorem RowOf.grown {row : Option Nat} (h : RowOf f w v l) (hg : w.grownBy w' row) (hr : v.ownBlock = none ∨ v.ownBlock ≠ row) : RowOf f w' v l :=
  h.moved hg.size fun b off hx hv => World.cell?_of_block (hg.block _ hx (by rcases hr with hr | hr <;> simp_all))

theorem RowOf.cases (h : RowOf f w v l) : (l = [] ∧ ∃ a cap, v = .slice a 0 cap ∧ cap ≤ maxLen ∧ (a = none → cap = 0)) ∨ ∃ b off cap, v = .slice (some ⟨b, off, none⟩) l.length cap ∧ l.length ≤ cap ∧ cap ≤ maxLen ∧ b < w.heap.size ∧ ∀ j (h : j < l.length), w.cell? ⟨b, off + j, none⟩ = some (f l[j]) := by
  obtain ⟨a, cap, rfl, h2, h3, h4, h5⟩ := h
  by_cases hl : l = []
  · subst hl; exact .inl ⟨rfl, a, cap, rfl, h3, h4⟩
  cases a with
  | none =>
    have := h4 rfl
    subst this
    exact absurd (List.eq_nil_of_length_eq_zero (by omega)) hl
  | some x =>
    obtain ⟨b, off, sp⟩ := x
    obtain ⟨g1, g2, g3⟩ := h5 _ rfl hl
    simp only at g1 g2 g3; subst g1
    exact .inr ⟨b, off, cap, rfl, h2, h3, g2, g3⟩

theorem RowOf.block_lt (h : RowOf f w v l) (hl : l ≠ []) : ∀ k, v.ownBlock = some k → k < w.heap.size := by
  obtain ⟨a, cap, rfl, _, _, _, h5⟩ := h
  intro k hk
  cases a with
  | none => simp [Value.ownBlock] at hk
  | some x => simp [Value.ownBlock] at hk; subst hk; exact (h5 _ rfl hl).2.1

theorem RowOf.cells (h : RowOf f w v l) {a : Option Addr} {n cap : Nat} (hv : v = .slice a n cap) : n = l.length ∧ n ≤ cap ∧ cap ≤ maxLen ∧ (a = none → cap = 0) := by
  obtain ⟨a', cap', h1, h2, h3, h4, _⟩ := h
  rw [hv] at h1; cases h1
  exact ⟨rfl, h2, h3, h4⟩

theorem block_add (x : Addr) (n : Nat) : (x.add n).block = x.block := by
  unfold Addr.add; split <;> rfl

/-- A piece of it. -/
theorem RowOf.piece {a : Option Addr} {n cap : Nat} (h : RowOf f w (.slice a n cap) l) {L H : Nat} (h1 : L ≤ H) (h2 : H ≤ l.length) :
    RowOf f w (sliced a L H cap 1) ((l.take H).drop L) ∧ ((sliced a L H cap 1).ownBlock = (Value.slice a n cap).ownBlock) := by
  obtain ⟨a', cap', he, h3, h4, h5, h6⟩ := h
  cases he
  have hlen : ((l.take H).drop L).length = H - L := by simp [Nat.min_eq_left h2]
  unfold sliced
  refine ⟨⟨_, _, by rw [hlen], by omega, by omega, fun hn => ?_, fun x hx hne => ?_⟩, ?_⟩
  · cases a with
    | none => have := h5 rfl; omega
    | some x => split at hn <;> simp at hn
  · cases a with
    | none => split at hx <;> simp at hx
    | some y =>
      have hl0 : l ≠ [] := by intro h0; subst h0; simp at hne
      obtain ⟨g1, g2, g3⟩ := h6 y rfl hl0
      split at hx
      · cases hx
        refine ⟨g1, g2, fun j hj => ?_⟩
        simp at hj; omega
      · simp at hx
        obtain ⟨b, off, sp⟩ := y
        simp only at g1; subst g1
        rw [Addr.add_lit] at hx
        subst hx
        refine ⟨rfl, g2, fun j hj => ?_⟩
        simp at hj
        have := g3 (L + j) (by omega)
        rw [Nat.add_assoc, this]
        simp
  · cases a with
    | none => simp [Value.ownBlock]
    | some y => split <;> simp [Value.ownBlock, block_add]

/-- Its first so many elements. -/
theorem RowOf.head {a : Option Addr} {n cap : Nat} (h : RowOf f w (.slice a n cap) l) {k : Nat} (hk : k ≤ l.length) : RowOf f w (.slice a k cap) (l.take k) := by
  obtain ⟨a', cap', he, h3, h4, h5, h6⟩ := h
  cases he
  have hlen : (l.take k).length = k := by simp [Nat.min_eq_left hk]
  refine ⟨a, cap, by rw [hlen], by omega, h4, h5, fun x hx hne => ?_⟩
  have hl0 : l ≠ [] := by intro h0; subst h0; simp at hne
  obtain ⟨g1, g2, g3⟩ := h6 x hx hl0
  refine ⟨g1, g2, fun j hj => ?_⟩
  rw [g3 j (by omega)]
  simp

/-- v is the call's own row (from block 'base' on) of the elements l. -/
def OwnOf (f : α → Value) (E : TypeId) (base : Nat) (w : World) (v : Value) (l : List α) : Prop := w.ownsRow base E 1 v l.length (l.map f)

variable {E : TypeId} {base : Nat}
theorem OwnOf.nil : OwnOf f E base w (.slice none 0 0) [] := World.ownsRow_nil _ _ _ _

theorem OwnOf.row (h : OwnOf f E base w v l) : RowOf f w v l := by
  have hlt := h.lt
  obtain ⟨h1, h2⟩ := h
  rcases h2 with ⟨rfl, h3⟩ | ⟨g, cap, cur, rfl, hb, hg, h3, h4, h5, h6⟩
  · have : l = [] := List.eq_nil_of_length_eq_zero h3
    subst this; exact RowOf.nil
  · refine ⟨_, cap, rfl, h3, h4, fun h => by simp at h, fun x hx _ => ?_⟩
    cases hx
    refine ⟨rfl, (hlt g rfl).2, fun j hj => ?_⟩
    rw [cell_of_row w g _ cur E (0, 0) hg]
    have h7 : (cur.toList.take (l.length * 1))[0 + j]? = (l.map f)[0 + j]? := by rw [h6]
    rw [List.getElem?_take, if_pos (by omega)] at h7
    simpa [hj] using h7

theorem OwnOf.own_ge (h : OwnOf f E base w v l) : ∀ k, v.ownBlock = some k → base ≤ k := fun k hk => (World.ownsRow.lt h k hk).1

theorem OwnOf.alloc (h : OwnOf f E base w v l) (o : Obj) : OwnOf f E base (w.alloc o) v l := World.ownsRow.alloc h o
theorem OwnOf.drew (h : OwnOf f E base w v l) : OwnOf f E base w.drew v l := h
theorem OwnOf.drewN (h : OwnOf f E base w v l) (n : Nat) : OwnOf f E base (w.drewN n) v l := h
theorem OwnOf.kept {row : Option Nat} (h : OwnOf f E base w v l) (hg : w.grownBy w' row) (hne : v.ownBlock = none ∨ v.ownBlock ≠ row) : OwnOf f E base w' v l := World.ownsRow.kept h hg hne

theorem OwnOf.moved (h : OwnOf f E base w v l) (hc : ∀ k, v.ownBlock = some k → w'.heap[k]? = w.heap[k]?) : OwnOf f E base w' v l := by
  obtain ⟨h1, h2⟩ := h
  refine ⟨h1, ?_⟩
  rcases h2 with h2 | ⟨g, cap, cur, rfl, hb, hg, r⟩
  · exact .inl h2
  · exact .inr ⟨g, cap, cur, rfl, hb, by rw [hc g rfl]; exact hg, r⟩

theorem OwnOf.below {B : Nat} (h : OwnOf f E base w v l) (hb : Below B w w') (hB : w.heap.size ≤ B) : OwnOf f E base w' v l :=
  h.moved fun k hk => hb.block k (Nat.lt_of_lt_of_le (World.ownsRow.lt h k hk).2 hB)

theorem OwnOf.shape (h : OwnOf f E base w v l) (hl : l ≠ []) : ∃ g cap, v = .slice (some ⟨g, 0, none⟩) l.length cap ∧ l.length ≤ cap ∧ cap ≤ maxLen ∧ base ≤ g := by
  obtain ⟨h1, h2⟩ := h
  rcases h2 with ⟨_, h3⟩ | ⟨g, cap, cur, rfl, hb, hg, h3, h4, h5, h6⟩
  · exact absurd (List.eq_nil_of_length_eq_zero h3) hl
  · exact ⟨g, cap, rfl, h3, h4, hb⟩

theorem OwnOf.stored {g n cap : Nat} (h : OwnOf f E base w (.slice (some ⟨g, 0, none⟩) n cap) l) (j : Nat) (c : α) : OwnOf f E base (w.setCell ⟨g, j, none⟩ (f c)) (.slice (some ⟨g, 0, none⟩) n cap) (l.set j c) := by
  obtain rfl := (h.row.cells rfl).1
  have h2 := (World.ownsRow.stored h j (f c)).1
  unfold OwnOf
  rw [List.length_set, List.map_set]
  exact h2

theorem OwnOf.cellAt {g n cap : Nat} (h : OwnOf f E base w (.slice (some ⟨g, 0, none⟩) n cap) l) (j : Nat) (hj : j < l.length) : w.cell? ⟨g, j, none⟩ = some (f l[j]) := by
  obtain rfl := (h.row.cells rfl).1
  rw [World.ownsRow.cellAt h j (by omega)]
  simp [hj]

theorem OwnOf.frozenAt {g n cap : Nat} (h : OwnOf f E base w (.slice (some ⟨g, 0, none⟩) n cap) l) (j : Nat) : w.frozen? ⟨g, j, none⟩ = false := by
  obtain rfl := (h.row.cells rfl).1
  exact World.ownsRow.frozenAt h j

theorem OwnOf.setOther (h : OwnOf f E base w v l) (x : Addr) (u : Value) (hne : v.ownBlock ≠ some x.block) : OwnOf f E base (w.setCell x u) v l :=
  h.moved fun k hk => Below.heap_setCell _ _ _ _ (by intro e; subst e; exact hne hk)

/-- A literal's row. -/
theorem OwnOf.lit (l : List α) (hb : base ≤ w.heap.size) (hm : l.length ≤ maxLen) : OwnOf f E base (w.alloc (.cells (l.map f).toArray E)) (.slice (some ⟨w.heap.size, 0, none⟩) l.length l.length) l := by
  unfold OwnOf
  have h := World.ownsRow_lit (base := base) (e := E) (size := 1) w (l.map f).toArray l.length hb hm (by simp)
  simpa using h

theorem OwnOf.base_le {base' : Nat} (h : OwnOf f E base w v l) (hb : base' ≤ base) : OwnOf f E base' w v l := by
  obtain ⟨h1, h2⟩ := h
  refine ⟨h1, ?_⟩
  rcases h2 with h2 | ⟨g, cap, cur, hv, hg, r⟩
  · exact .inl h2
  · exact .inr ⟨g, cap, cur, hv, by omega, r⟩
end

theorem grown_below {w w' : World} {row : Option Nat} {B : Nat} (hg : w.grownBy w' row) (hB : B ≤ w.heap.size) (hr : ∀ k, row = some k → B ≤ k) : Below B w w' :=
  (Below.refl B w).grown hg hB hr

theorem bytes_of_ints {w : World} {x : Addr} {n c : Nat} {zs : List Int} (hl : n ≤ c) (hm : c ≤ maxLen) (hz : zs.length = c)
    (hcell : ∀ i, i < zs.length → w.cell? (x.add i) = some (.int .u8 (zs.getD i 0))) (hwz : ∀ z ∈ zs, (Lit.int .u8 z).wf = true) :
    ∃ bs : List UInt8, RowOf byteV w (.slice (some x) n c) bs ∧ bs.length = n := by
  refine ⟨(zs.take n).map (fun z => UInt8.ofNat z.toNat), ⟨some x, c, ?_, ?_, hm, (fun h => by cases h), fun y hy hne => ?_⟩, ?_⟩
  · congr 1
    simp [hz, Nat.min_eq_left hl]
  · simp [hz]; omega
  · cases hy
    have hn0 : 0 < zs.length := by
      rcases Nat.eq_zero_or_pos zs.length with h | h
      · simp [List.eq_nil_of_length_eq_zero h] at hne
      · exact h
    have hc := hcell 0 hn0
    obtain ⟨b, off, sp⟩ := x
    have hsp : sp = none := by simpa [Addr.add] using World.cell?_spot hc
    subst hsp
    refine ⟨rfl, World.block_lt_of_cell? w _ hc, fun j hj => ?_⟩
    simp at hj
    have h1 := hcell j (by omega)
    rw [Addr.add_lit] at h1
    rw [h1]
    have h2 := hwz (zs.getD j 0) (by rw [List.getD_eq_getElem?_getD, List.getElem?_eq_getElem (by omega)]; exact List.getElem_mem _)
    have h3 : 0 ≤ zs.getD j 0 ∧ zs.getD j 0 < 256 := by
      rw [Lit.wf, Bool.and_eq_true, decide_eq_true_eq, decide_eq_true_eq] at h2
      have e1 : IntKind.u8.min = 0 := rfl
      have e2 : IntKind.u8.max = 255 := rfl
      omega
    simp only [List.getElem_map, List.getElem_take, byteV]
    have h4 : zs.getD j 0 = zs[j]'(by omega) := by rw [List.getD_eq_getElem?_getD, List.getElem?_eq_getElem (by omega)]; rfl
    rw [h4] at h3 ⊢
    congr 2
    have h5 : (UInt8.ofNat zs[j].toNat).toNat = zs[j].toNat := by rw [UInt8.toNat_ofNat']; omega
    rw [h5]; omega
  · simp [hz, Nat.min_eq_left hl]

/-- The worlds that have grown out of w0: what was there reads as it did. -/
structure Under (w0 : World) where
  w : World
  below : Below w0.heap.size w0 w
instance (w0 : World) : Nonempty (Under w0) := ⟨⟨w0, Below.refl _ _⟩⟩

/-- A region that draws its order, whose operations read and whose calls make memory of their own, handing back one value in every such world. -/
theorem wp_region_under {P : Program} {id : Nat} {l : List Oper} {Q : Exit → Act → World → Prop} {a : Act} {w : World} (w0 : World) (hm : P.follows .mixedOrders = true) (hB : Region.lexB .any l.toArray = true)
    (hw : Below w0.heap.size w0 w)
    (h : wpQuiet P l.toArray (fun w' => ∃ x : Under w0, w' = x.w) (fun a' => ∀ w', (∃ x : Under w0, w' = x.w) → Q .normal a' w') l a) : (Code.region id l.toArray true).wp P Q a w :=
  wp_region_quiet (C := fun w' => ∃ x : Under w0, w' = x.w) hm hB ⟨⟨_, hw.drew⟩, rfl⟩ (by simpa using h)

theorem Under.call {P : Program} {f : FuncId} {args : Array Value} {w0 : World} {v : Value} (x : Under w0)
    (h : Calls P f args x.w fun e w' => e = .returned v ∧ Below x.w.heap.size x.w w') : Calls P f args x.w fun e w' => e = .returned v ∧ ∃ y : Under w0, w' = y.w :=
  h.mono fun _ w' ⟨he, hb⟩ => ⟨he, ⟨w', x.below.trans (hb.mono x.below.size)⟩, rfl⟩

theorem RowOf.under_of {α : Type} {f : α → Value} {w0 : World} {v : Value} {l : List α} (h : RowOf f w0 v l) (x : Under w0) : RowOf f x.w v l := h.below x.below (Nat.le_refl _)

theorem below_drewN {B : Nat} {w w' : World} (h : Below B w w') (n : Nat) : Below B w (w'.drewN n) := h.trans ⟨rfl, rfl, rfl, Nat.le_refl _, fun _ _ => rfl⟩
theorem below_draws (B : Nat) (w : World) (n : Nat) : Below B w (w.drewN n) := ⟨rfl, rfl, rfl, Nat.le_refl _, fun _ _ => rfl⟩

/-- A goal set aside: the walk does not see through the name. -/
def Stop (p : Prop) : Prop := p
theorem Stop.out {p : Prop} (h : p) : Stop p := h
section
variable {P : Program} {ops : Array Oper} {Q : Exit → Act → World → Prop} {d : Option Tmp} {ty : TypeId} {pos : String} {aft : Array Edge} {g : Option (Nat × Bool)} {rest : List Oper} {a : Act} {w : World}
theorem stop_append {xs : Array Operand} {ts : Array TypeId} (h : Stop (wpList P ops Q (⟨d, .call ⟨.builtin .append, xs, ts⟩, ty, pos, aft, g⟩ :: rest) a w)) : wpList P ops Q (⟨d, .call ⟨.builtin .append, xs, ts⟩, ty, pos, aft, g⟩ :: rest) a w := h
theorem stop_copy {xs : Array Operand} {ts : Array TypeId} (h : Stop (wpList P ops Q (⟨d, .call ⟨.builtin .copy, xs, ts⟩, ty, pos, aft, g⟩ :: rest) a w)) : wpList P ops Q (⟨d, .call ⟨.builtin .copy, xs, ts⟩, ty, pos, aft, g⟩ :: rest) a w := h
theorem stop_len {xs : Array Operand} {ts : Array TypeId} (h : Stop (wpList P ops Q (⟨d, .call ⟨.builtin .len, xs, ts⟩, ty, pos, aft, g⟩ :: rest) a w)) : wpList P ops Q (⟨d, .call ⟨.builtin .len, xs, ts⟩, ty, pos, aft, g⟩ :: rest) a w := h
theorem stop_make {t : TypeId} {x y : Operand} (h : Stop (wpList P ops Q (⟨d, .makeSlice t x y, ty, pos, aft, g⟩ :: rest) a w)) : wpList P ops Q (⟨d, .makeSlice t x y, ty, pos, aft, g⟩ :: rest) a w := h
theorem stop_slice {t : TypeId} {x : Operand} {lo hi mx : Option Operand} (h : Stop (wpList P ops Q (⟨d, .slice t x lo hi mx, ty, pos, aft, g⟩ :: rest) a w)) : wpList P ops Q (⟨d, .slice t x lo hi mx, ty, pos, aft, g⟩ :: rest) a w := h
theorem stop_convert {t1 t2 : TypeId} {x : Operand} (h : Stop (wpList P ops Q (⟨d, .convert t1 t2 x, ty, pos, aft, g⟩ :: rest) a w)) : wpList P ops Q (⟨d, .convert t1 t2 x, ty, pos, aft, g⟩ :: rest) a w := h
theorem stop_load {t : TypeId} {x : Operand} (h : Stop (wpList P ops Q (⟨d, .load t x, ty, pos, aft, g⟩ :: rest) a w)) : wpList P ops Q (⟨d, .load t x, ty, pos, aft, g⟩ :: rest) a w := h
theorem stop_store {t : TypeId} {x y : Operand} (h : Stop (wpList P ops Q (⟨d, .store t x y, ty, pos, aft, g⟩ :: rest) a w)) : wpList P ops Q (⟨d, .store t x y, ty, pos, aft, g⟩ :: rest) a w := h
theorem stop_build {t : TypeId} {n : Nat} {xs : Array (Nat × Operand)} (h : Stop (wpList P ops Q (⟨d, .buildSlice t n xs, ty, pos, aft, g⟩ :: rest) a w)) : wpList P ops Q (⟨d, .buildSlice t n xs, ty, pos, aft, g⟩ :: rest) a w := h
end

section
variable {α : Type} {f : α → Value} {P : Program} {w : World} {ops : Array Oper} {rest : List Oper} {o : Oper} {a : Act} {Q : Exit → Act → World → Prop}

theorem wpList_want (hw : Region.wanted o (yielded ops a.tmps) = true) (h : ∀ K : Act → World → Prop, (∀ a w, wpList P ops Q rest a w → K a w) → o.wp P a w K Q) : wpList P ops Q (o :: rest) a w :=
  wpList_step fun K hK => by rw [if_pos hw]; exact h K hK

/-- 'append(s, x...)', s the call's own: one operation. -/
theorem wp_append_row {K : Act → World → Prop} (s x : Operand) (t : TypeId)
    (ho : o.op = .call { callee := .builtin .append, args := #[s, x], argTypes := #[t, t] })
    (base : Nat) (e : TypeId) (bytes : Nat) (z : Value) (ht : P.underlying t = some (.slice e)) (hi : (P.info? e).map (fun i => (i.zero, i.size, i.bytes)) = some (some z, 1, bytes)) (hzs : z.cells.size = 1)
    (hf : ∀ x, (f x).oneCell' = true)
    (l l2 : List α) (hown : OwnOf f e base w (a.eval s) l) (hrow : RowOf f w (a.eval x) l2)
    (hm : l.length + l2.length ≤ maxLen) (hby : (l.length + l2.length) * bytes ≤ 140737488355328) (hbase : base ≤ w.heap.size) (w0 : World) (hb : Below base w0 w)
    (hK : ∀ v' w', OwnOf f e base w' v' (l ++ l2) → Below base w0 w' → w.grownBy w' (a.eval s).ownBlock → K (a.put o.dst v') w') : o.wp P a w K Q := by
  obtain ⟨i, hi1, hi2, hi3, hi4⟩ := info_parts hi
  obtain ⟨ao, cap, hv, h2, h3, h4, h5⟩ := hrow
  by_cases hl2 : l2 = []
  · subst hl2
    cases ao with
    | none =>
      have hc := h4 rfl
      subst hc
      have hrun := run_append_owned_none (P := P) (w := w) base t o.type e i 1 ht hi1 (a.eval s) l.length (l.map f) hown
      unfold Oper.wp
      simp [execOp, ho, resolve, invoke, builtin, hv, hrun, Result.andThen]
      exact hK _ _ (by simpa using hown) hb ⟨rfl, rfl, rfl, Nat.le_refl _, fun _ _ _ => rfl⟩
    | some ad =>
      refine wp_append_own w s x t ho base e i z 1 bytes ht hi1 hi2 hi3 hi4 hzs (by decide) (a.eval s) l.length (l.map f) rfl hown ad 0 cap [] (by simpa using hv) (by simp) (by simp) (by simp) hm hby hbase ?_
      intro v' w' hown' hg _
      exact hK v' w' (by unfold OwnOf; simpa using hown') (hb.trans (grown_below hg hbase (fun k hk => (World.ownsRow.lt hown k hk).1))) hg
  cases ao with
  | none =>
    have hc := h4 rfl
    subst hc
    exact absurd (List.eq_nil_of_length_eq_zero (by omega)) hl2
  | some ad =>
    obtain ⟨b, off, sp⟩ := ad
    obtain ⟨g1, g2, g3⟩ := h5 _ rfl hl2
    simp only at g1 g2 g3; subst g1
    refine wp_append_own w s x t ho base e i z 1 bytes ht hi1 hi2 hi3 hi4 hzs (by decide) (a.eval s) l.length (l.map f) rfl hown ⟨b, off, none⟩ l2.length cap (l2.map f) hv (by simp) ?_ ?_ hm hby hbase ?_
    · intro j u hu
      rw [Addr.add_lit]
      simp only [List.getElem?_map, Option.map_eq_some_iff] at hu
      obtain ⟨y, hy, rfl⟩ := hu
      obtain ⟨hj, rfl⟩ := List.getElem?_eq_some_iff.1 hy
      exact g3 j hj
    · intro u hu
      obtain ⟨y, _, rfl⟩ := List.mem_map.1 hu
      exact hf y
    · intro v' w' hown' hg _
      exact hK v' w' (by unfold OwnOf; simpa using hown') (hb.trans (grown_below hg hbase (fun k hk => (World.ownsRow.lt hown k hk).1))) hg

/-- 'append(s, x...)', s the call's own. -/
theorem wpList_append_row (hgd : Region.wanted o (yielded ops a.tmps) = true) (s x : Operand) (t : TypeId)
    (ho : o.op = .call { callee := .builtin .append, args := #[s, x], argTypes := #[t, t] })
    (base : Nat) (e : TypeId) (bytes : Nat) (z : Value) (ht : P.underlying t = some (.slice e)) (hi : (P.info? e).map (fun i => (i.zero, i.size, i.bytes)) = some (some z, 1, bytes)) (hzs : z.cells.size = 1)
    (hf : ∀ x, (f x).oneCell' = true)
    (l l2 : List α) (hown : OwnOf f e base w (a.eval s) l) (hrow : RowOf f w (a.eval x) l2)
    (hm : l.length + l2.length ≤ maxLen) (hby : (l.length + l2.length) * bytes ≤ 140737488355328) (hbase : base ≤ w.heap.size) (w0 : World) (hb : Below base w0 w)
    (hK : ∀ v' w', OwnOf f e base w' v' (l ++ l2) → Below base w0 w' → w.grownBy w' (a.eval s).ownBlock → wpList P ops Q rest (a.put o.dst v') w') : wpList P ops Q (o :: rest) a w :=
  wpList_want hgd fun _ hK' => wp_append_row s x t ho base e bytes z ht hi hzs hf l l2 hown hrow hm hby hbase w0 hb fun v' w' h1 h2 h3 => hK' _ _ (hK v' w' h1 h2 h3)

/-- The same as one step of a region that draws its order. -/
theorem step_append_row {K : Act → World → Prop} {Z : Prop} (hgd : Region.wanted o (yielded ops a.tmps) = true) (s x : Operand) (t : TypeId)
    (ho : o.op = .call { callee := .builtin .append, args := #[s, x], argTypes := #[t, t] })
    (base : Nat) (e : TypeId) (bytes : Nat) (z : Value) (ht : P.underlying t = some (.slice e)) (hi : (P.info? e).map (fun i => (i.zero, i.size, i.bytes)) = some (some z, 1, bytes)) (hzs : z.cells.size = 1)
    (hf : ∀ x, (f x).oneCell' = true)
    (l l2 : List α) (hown : OwnOf f e base w (a.eval s) l) (hrow : RowOf f w (a.eval x) l2)
    (hm : l.length + l2.length ≤ maxLen) (hby : (l.length + l2.length) * bytes ≤ 140737488355328) (hbase : base ≤ w.heap.size) (w0 : World) (hb : Below base w0 w)
    (hK : ∀ v' w', OwnOf f e base w' v' (l ++ l2) → Below base w0 w' → w.grownBy w' (a.eval s).ownBlock → K (a.put o.dst v') w') : if Region.wanted o (yielded ops a.tmps) = true then o.wp P a w K Q else Z := by
  rw [if_pos hgd]
  exact wp_append_row s x t ho base e bytes z ht hi hzs hf l l2 hown hrow hm hby hbase w0 hb hK

theorem run_sizeOf_one {e : TypeId} (h : (P.info? e).map (fun i => i.size) = some 1) (w : World) : (sizeOf e).run P w = .ok 1 w := by
  obtain ⟨i, hi, hs⟩ := Option.map_eq_some_iff.1 h
  simp [sizeOf, typeInfo, hi, hs]

/-- 's[:hi]' -/
theorem wpList_slice_h (hgd : Region.wanted o (yielded ops a.tmps) = true) (x hi : Operand) (t : TypeId) (ho : o.op = .slice t x none (some hi) none)
    (ht : P.underlying t = some (.slice (P.elem t))) (hs : (P.info? (P.elem t)).map (fun i => i.size) = some 1)
    (l : List α) (hrow : RowOf f w (a.eval x) l) (k : IntKind) (n : Int) (H : Nat) (eH : a.eval hi = .int k n) (hH : n = H) (h2 : H ≤ l.length)
    (hK : ∀ v', RowOf f w v' (l.take H) → v'.ownBlock = (a.eval x).ownBlock → wpList P ops Q rest (a.put o.dst v') w) : wpList P ops Q (o :: rest) a w := by
  obtain ⟨ao, cap, hv, h3, h4, h5⟩ := hrow.len
  rw [hv] at hrow
  obtain ⟨r1, r2⟩ := hrow.piece (Nat.zero_le _) h2
  refine wpList_want hgd fun K hK' => ?_
  subst hH
  have hrun := run_slice_h (P := P) w t ao l.length cap ht k (H : Int) (by omega) (by omega)
  unfold Oper.wp
  simp only [execOp, ho, hv, eH, Option.map_some, Option.map_none, Sem.run_bind, run_sliceAt_slice (P := P) w t _ _ _ _ ht, hrun, run_sizeOf_one hs, Result.andThen, Sem.run_pure, Oper.upon_value, Int.toNat_natCast]
  exact hK' _ _ (hK _ (by simpa using r1) (by rw [hv]; simpa using r2))

/-- 's[lo:]' -/
theorem wpList_slice_l (hgd : Region.wanted o (yielded ops a.tmps) = true) (x lo : Operand) (t : TypeId) (ho : o.op = .slice t x (some lo) none none)
    (ht : P.underlying t = some (.slice (P.elem t))) (hs : (P.info? (P.elem t)).map (fun i => i.size) = some 1)
    (l : List α) (hrow : RowOf f w (a.eval x) l) (k : IntKind) (n : Int) (L : Nat) (eL : a.eval lo = .int k n) (hL : n = L) (h2 : L ≤ l.length)
    (hK : ∀ v', RowOf f w v' (l.drop L) → v'.ownBlock = (a.eval x).ownBlock → wpList P ops Q rest (a.put o.dst v') w) : wpList P ops Q (o :: rest) a w := by
  obtain ⟨ao, cap, hv, h3, h4, h5⟩ := hrow.len
  rw [hv] at hrow
  obtain ⟨r1, r2⟩ := hrow.piece h2 (Nat.le_refl _)
  refine wpList_want hgd fun K hK' => ?_
  subst hL
  have hrun := run_slice_l (P := P) w t ao l.length cap ht k (L : Int) (by omega) (by omega)
  unfold Oper.wp
  simp only [execOp, ho, hv, eL, Option.map_some, Option.map_none, Sem.run_bind, run_sliceAt_slice (P := P) w t _ _ _ _ ht, hrun, run_sizeOf_one hs, Result.andThen, Sem.run_pure, Oper.upon_value, Int.toNat_natCast]
  exact hK' _ _ (hK _ (by simpa using r1) (by rw [hv]; simpa using r2))

/-- 's[lo:hi]' -/
theorem wpList_slice_lh (hgd : Region.wanted o (yielded ops a.tmps) = true) (x lo hi : Operand) (t : TypeId) (ho : o.op = .slice t x (some lo) (some hi) none)
    (ht : P.underlying t = some (.slice (P.elem t))) (hs : (P.info? (P.elem t)).map (fun i => i.size) = some 1)
    (l : List α) (hrow : RowOf f w (a.eval x) l) (k k2 : IntKind) (n n2 : Int) (L H : Nat) (eL : a.eval lo = .int k n) (eH : a.eval hi = .int k2 n2) (hL : n = L) (hH : n2 = H) (h1 : L ≤ H) (h2 : H ≤ l.length)
    (hK : ∀ v', RowOf f w v' ((l.take H).drop L) → v'.ownBlock = (a.eval x).ownBlock → wpList P ops Q rest (a.put o.dst v') w) : wpList P ops Q (o :: rest) a w := by
  obtain ⟨ao, cap, hv, h3, h4, h5⟩ := hrow.len
  rw [hv] at hrow
  obtain ⟨r1, r2⟩ := hrow.piece h1 h2
  refine wpList_want hgd fun K hK' => ?_
  subst hL hH
  have hrun := run_slice_lh (P := P) w t ao l.length cap ht k k2 (L : Int) (H : Int) (by omega) (by omega) (by omega)
  unfold Oper.wp
  simp only [execOp, ho, hv, eL, eH, Option.map_some, Option.map_none, Sem.run_bind, run_sliceAt_slice (P := P) w t _ _ _ _ ht, hrun, run_sizeOf_one hs, Result.andThen, Sem.run_pure, Oper.upon_value, Int.toNat_natCast]
  exact hK' _ _ (hK _ (by simpa using r1) (by rw [hv]; simpa using r2))

/-- 'make([]T, 0, n)' -/
theorem wpList_make_row (f : α → Value) (hgd : Region.wanted o (yielded ops a.tmps) = true) (l c : Operand) (t : TypeId) (hop : o.op = .makeSlice t l c)
    (base : Nat) (e : TypeId) (bytes : Nat) (z : Value) (ht : P.underlying t = some (.slice e)) (hi : (P.info? e).map (fun i => (i.zero, i.size, i.bytes)) = some (some z, 1, bytes))
    (kl kc : IntKind) (C : Int) (n : Nat) (hl : a.eval l = .int kl 0) (hc : a.eval c = .int kc C) (hC : C = n) (hby : bytes * n ≤ 281474976710656) (hm : n ≤ maxLen) (hbase : base ≤ w.heap.size) (w0 : World) (hb : Below base w0 w)
    (hK : ∀ v' w', OwnOf f e base w' v' [] → Below base w0 w' → w.grownBy w' none → wpList P ops Q rest (a.put o.dst v') w') : wpList P ops Q (o :: rest) a w := by
  obtain ⟨i, hi1, hi2, hi3, hi4⟩ := info_parts hi
  refine wpList_want hgd fun K hK' => ?_
  obtain ⟨w', hrun, h1, h2⟩ := run_make_own (P := P) w base t e i z 1 ht hi1 hi2 hi3 kl kc n (by rw [hi4]; exact hby) hm hbase
  subst hC
  unfold Oper.wp
  simp [execOp, hop, hl, hc, hrun, Result.andThen]
  exact hK' _ _ (hK _ w' h1 (hb.trans (grown_below h2 hbase (fun k hk => by cases hk))) h2)


theorem run_storeVar_row (w : World) (g : Nat) (t ty : TypeId) (cur cs : Array Value) (hg : w.heap[g]? = some (.cells cur t (0, 0))) (hsz : cur.size = cs.size)
    (hi : (P.info? ty).map (·.size) = some cs.size) (h1 : ∀ v ∈ cs.toList, v.oneCell' = true) :
    (storeVar ty ⟨g, 0, none⟩ (.agg cs)).run P w = .ok () (w.setRow g cs) := by
  have hst := run_storeCells_at P g 0 t cs.toList 0 cur w hg (by simp; omega) h1
  cases hq : P.info? ty with
  | none => simp [hq] at hi
  | some i =>
    have hs : i.size = cs.size := by simpa [hq] using hi
    have e : (cur.toList.take (0 + 0) ++ cs.toList ++ cur.toList.drop (0 + 0 + cs.toList.length)).toArray = cs := by
      rw [List.drop_of_length_le (by simp; omega)]; simp
    rw [e] at hst
    simp [storeVar, Value.cells, Sem.run_bind, sizeOf, typeInfo, hq, hs, hst]

/-- A whole row is stored. -/
theorem wpList_store_all (hgd : Region.wanted o (yielded ops a.tmps) = true) (ty : TypeId) (x v : Operand) (ho : o.op = .store ty x v) (hdst : o.dst = none)
    (g : Nat) (hx : a.eval x = .pointer (some ⟨g, 0, none⟩)) (cs : Array Value) (hv : a.eval v = .agg cs) (t : TypeId) (cur : Array Value) (hg : w.heap[g]? = some (.cells cur t (0, 0))) (hsz : cur.size = cs.size)
    (hi : (P.info? ty).map (·.size) = some cs.size) (h1 : ∀ v ∈ cs.toList, v.oneCell' = true)
    (hK : wpList P ops Q rest a (w.setRow g cs)) : wpList P ops Q (o :: rest) a w := by
  refine wpList_want hgd fun K hK' => ?_
  have hrun := run_storeVar_row (P := P) w g t ty cur cs hg hsz hi h1
  unfold Oper.wp execOp
  simp only [ho, hx, hv, Instr.storeAt, Instr.sureAddr, Sem.run_bind, Sem.run_pure, Result.andThen_ok, hrun, Oper.upon_skip, hdst]
  exact hK' _ _ hK

/-- 'a[i]', a an array value whose elements are one cell each. -/
theorem run_index_cell (w : World) (t e : TypeId) (n : Nat) (cs : Array Value) (k : IntKind) (i : Int) (j : Nat) (v : Value) (ht : P.underlying t = some (.array n e)) (hs : (P.info? e).map (fun i => i.size) = some 1)
    (he : (match P.underlying e with | some (.struct _) => false | some (.array _ _) => false | none => false | _ => true) = true) (hi : i = j) (hj : j < n) (hv : cs[j]? = some v) :
    (Instr.index t (.agg cs) (.int k i)).run P w = .ok v w := by
  subst hi
  have h1 : (isAgg e).run P w = .ok false w := by
    unfold isAgg
    cases hu : P.underlying e with
    | none => simp [hu] at he
    | some d =>
      rw [Sem.run_bind, run_underlying hu w]
      cases d <;> simp_all
  simp [Instr.index, asIntOf, run_underlying ht, run_sizeOf_one hs, part, h1, Sem.run_bind, hv]
  intro h; omega
end
end Go.Tab
