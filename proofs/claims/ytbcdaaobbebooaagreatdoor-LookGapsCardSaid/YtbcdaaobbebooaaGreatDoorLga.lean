/- Texts of this claim, one behind the other: Kit, Box, Bse, NumA, NuG, NuH, UtfP, QuoP, LxP, TkA, ExP, ExQ, LkP, Gen, ExA, ExB. -/
import Derived.WalkKit
import Derived.WalkSpells
import Derived.WalkLawsBesides
import Derived.Outline
import Derived.Lib.Hide
import Derived.Lib.SlBytesConst
import Derived.BigQuiet
import Derived.Deep.QuietTactic
import Derived.Deep.RegionWith
import Derived.Laws.AppendOwnNone
import Derived.Deep.DeepCutAuto
import Derived.StillTailTactics
import Derived.Deep.RegionHeld3
import Derived.Deep.CutBlock
import Derived.Deep.LoopGhost
import Derived.Laws.CopyOwn
import Derived.Deep.RegionLaw
import Derived.Test.YtbcdaaobbebooaaGreatDoorRows
import Derived.Lib.TrimByte
import Derived.Lib.SlTrimSet
import Derived.Lib.IndexMore
import Derived.Deep.Slices
import Derived.SliceStrings
import Derived.ChangeArms
set_option linter.unusedSimpArgs false
set_option linter.unusedVariables false
namespace Go.Tab
set_option maxRecDepth 100000
set_option maxHeartbeats 20000000
open Go.RowKit
def RowOf {α : Type} (f : α -> Value) (w : World) (v : Value) (l : List α) : Prop :=
 ∃ a cap, v = .slice a l.length cap /\ l.length <= cap /\ cap <= maxLen /\ (a = none -> cap = 0) /\
  ∀ x, a = some x -> l ≠ [] -> x.spot = none /\ x.block < w.heap.size /\ ∀ j (h : j < l.length), w.cell? ⟨x.block, x.off + j, none⟩ = some (f l[j])
abbrev byteV (c : UInt8) : Value := .int .u8 (c.toNat : Int)
section
variable {α : Type} {f : α -> Value} {w w' : World} {v : Value} {l : List α}
theorem RowOf.nil : RowOf f w (.slice none 0 0) [] := ⟨none, 0, rfl, Nat.le_refl _, by decide, fun _ => rfl, fun x h => by cases h⟩
theorem RowOf.len (h : RowOf f w v l) : ∃ a cap, v = .slice a l.length cap /\ l.length <= cap /\ cap <= maxLen /\ (a = none -> cap = 0) := by
 obtain ⟨a, cap, h1, h2, h3, h4, _⟩ := h; exact ⟨a, cap, h1, h2, h3, h4⟩
theorem RowOf.at {a : Option Addr} {n cap : Nat} (h : RowOf f w (.slice a n cap) l) {j : Nat} (hj : j < l.length) :
  ∃ b off, a = some ⟨b, off, none⟩ /\ b < w.heap.size /\ ∀ j (h : j < l.length), w.cell? ⟨b, off + j, none⟩ = some (f l[j]) := by
 obtain ⟨a', cap', h1, h2, h3, h4, h5⟩ := h; cases h1
 cases a with
 | none => have := h4 rfl; omega
 | some x =>
  obtain ⟨b, off, sp⟩ := x; obtain ⟨rfl, h6, h7⟩ := h5 _ rfl (by intro h0; subst h0; simp at hj); exact ⟨b, off, rfl, h6, h7⟩
theorem RowOf.moved (h : RowOf f w v l) (hs : w.heap.size <= w'.heap.size) (hc : ∀ b off, b < w.heap.size -> v.ownBlock = some b -> w'.cell? ⟨b, off, none⟩ = w.cell? ⟨b, off, none⟩) : RowOf f w' v l := by
 obtain ⟨a, cap, rfl, h2, h3, h4, h5⟩ := h; refine ⟨a, cap, rfl, h2, h3, h4, fun x hx hl => ?_⟩; obtain ⟨h6, h7, h8⟩ := h5 x hx hl; subst hx; exact ⟨h6, by omega, fun j hj => by rw [hc _ _ h7 rfl]; exact h8 j hj⟩
theorem RowOf.below {B : Nat} (h : RowOf f w v l) (hb : Below B w w') (hB : w.heap.size <= B) : RowOf f w' v l :=
 h.moved hb.size fun b off hx _ => hb.cell (by show b < B; omega)
theorem RowOf.cells (h : RowOf f w v l) {a : Option Addr} {n cap : Nat} (hv : v = .slice a n cap) : n = l.length /\ n <= cap /\ cap <= maxLen /\ (a = none -> cap = 0) := by
 obtain ⟨a', cap', h1, h2, h3, h4, _⟩ := h; rw [hv] at h1; cases h1; exact ⟨rfl, h2, h3, h4⟩
theorem block_add (x : Addr) (n : Nat) : (x.add n).block = x.block := by
 unfold Addr.add; split <;> rfl
def OwnOf (f : α -> Value) (E : TypeId) (base : Nat) (w : World) (v : Value) (l : List α) : Prop := w.ownsRow base E 1 v l.length (l.map f)
variable {E : TypeId} {base : Nat}
theorem OwnOf.nil : OwnOf f E base w (.slice none 0 0) [] := World.ownsRow_nil _ _ _ _
theorem OwnOf.row (h : OwnOf f E base w v l) : RowOf f w v l := by
 have hlt := h.lt; obtain ⟨h1, h2⟩ := h; rcases h2 with ⟨rfl, h3⟩ | ⟨g, cap, cur, rfl, hb, hg, h3, h4, h5, h6⟩
 ·have : l = [] := List.eq_nil_of_length_eq_zero h3
  subst this; exact RowOf.nil
 ·refine ⟨_, cap, rfl, h3, h4, fun h => by simp at h, fun x hx _ => ?_⟩
  cases hx
  refine ⟨rfl, (hlt g rfl).2, fun j hj => ?_⟩; rw [cell_of_row w g _ cur E (0, 0) hg]; have h7 : (cur.toList.take (l.length * 1))[0 + j]? = (l.map f)[0 + j]? := by rw [h6]
  rw [List.getElem?_take, if_pos (by omega)] at h7
  simpa [hj] using h7
theorem OwnOf.alloc (h : OwnOf f E base w v l) (o : Obj) : OwnOf f E base (w.alloc o) v l := World.ownsRow.alloc h o
theorem OwnOf.drew (h : OwnOf f E base w v l) : OwnOf f E base w.drew v l := h
theorem OwnOf.drewN (h : OwnOf f E base w v l) (n : Nat) : OwnOf f E base (w.drewN n) v l := h
theorem OwnOf.kept {row : Option Nat} (h : OwnOf f E base w v l) (hg : w.grownBy w' row) (hne : v.ownBlock = none \/ v.ownBlock ≠ row) : OwnOf f E base w' v l := World.ownsRow.kept h hg hne
theorem OwnOf.moved (h : OwnOf f E base w v l) (hc : ∀ k, v.ownBlock = some k -> w'.heap[k]? = w.heap[k]?) : OwnOf f E base w' v l := by
 obtain ⟨h1, h2⟩ := h; refine ⟨h1, ?_⟩; rcases h2 with h2 | ⟨g, cap, cur, rfl, hb, hg, r⟩
 ·exact .inl h2
 ·exact .inr ⟨g, cap, cur, rfl, hb, by rw [hc g rfl]; exact hg, r⟩
theorem OwnOf.below {B : Nat} (h : OwnOf f E base w v l) (hb : Below B w w') (hB : w.heap.size <= B) : OwnOf f E base w' v l :=
 h.moved fun k hk => hb.block k (Nat.lt_of_lt_of_le (World.ownsRow.lt h k hk).2 hB)
theorem OwnOf.cellAt {g n cap : Nat} (h : OwnOf f E base w (.slice (some ⟨g, 0, none⟩) n cap) l) (j : Nat) (hj : j < l.length) : w.cell? ⟨g, j, none⟩ = some (f l[j]) := by
 obtain rfl := (h.row.cells rfl).1; rw [World.ownsRow.cellAt h j (by omega)]; simp [hj]
theorem OwnOf.setOther (h : OwnOf f E base w v l) (x : Addr) (u : Value) (hne : v.ownBlock ≠ some x.block) : OwnOf f E base (w.setCell x u) v l :=
 h.moved fun k hk => Below.heap_setCell _ _ _ _ (by intro e; subst e; exact hne hk)
theorem OwnOf.lit (l : List α) (hb : base <= w.heap.size) (hm : l.length <= maxLen) : OwnOf f E base (w.alloc (.cells (l.map f).toArray E)) (.slice (some ⟨w.heap.size, 0, none⟩) l.length l.length) l := by
 unfold OwnOf; have h := World.ownsRow_lit (base := base) (e := E) (size := 1) w (l.map f).toArray l.length hb hm (by simp)
 simpa using h
theorem OwnOf.base_le {base' : Nat} (h : OwnOf f E base w v l) (hb : base' <= base) : OwnOf f E base' w v l := by
 obtain ⟨h1, h2⟩ := h; refine ⟨h1, ?_⟩; rcases h2 with h2 | ⟨g, cap, cur, hv, hg, r⟩
 ·exact .inl h2
 ·exact .inr ⟨g, cap, cur, hv, by omega, r⟩
end
theorem grown_below {w w' : World} {row : Option Nat} {B : Nat} (hg : w.grownBy w' row) (hB : B <= w.heap.size) (hr : ∀ k, row = some k -> B <= k) : Below B w w' :=
 (Below.refl B w).grown hg hB hr
structure Under (w0 : World) where
 w : World
 below : Below w0.heap.size w0 w
instance (w0 : World) : Nonempty (Under w0) := ⟨⟨w0, Below.refl _ _⟩⟩
theorem wp_region_under {P : Program} {id : Nat} {l : List Oper} {Q : Exit -> Act -> World -> Prop} {a : Act} {w : World} (w0 : World) (hm : P.follows .mixedOrders = true) (hB : Region.lexB .any l.toArray = true)
  (hw : Below w0.heap.size w0 w)
  (h : wpQuiet P l.toArray (fun w' => ∃ x : Under w0, w' = x.w) (fun a' => ∀ w', (∃ x : Under w0, w' = x.w) -> Q .normal a' w') l a) : (Code.region id l.toArray true).wp P Q a w :=
 wp_region_quiet (C := fun w' => ∃ x : Under w0, w' = x.w) hm hB ⟨⟨_, hw.drew⟩, rfl⟩ (by simpa using h)
theorem Under.call {P : Program} {f : FuncId} {args : Array Value} {w0 : World} {v : Value} (x : Under w0)
  (h : Calls P f args x.w fun e w' => e = .returned v /\ Below x.w.heap.size x.w w') : Calls P f args x.w fun e w' => e = .returned v /\ ∃ y : Under w0, w' = y.w :=
 h.mono fun _ w' ⟨he, hb⟩ => ⟨he, ⟨w', x.below.trans (hb.mono x.below.size)⟩, rfl⟩
theorem below_drewN {B : Nat} {w w' : World} (h : Below B w w') (n : Nat) : Below B w (w'.drewN n) := h.trans ⟨rfl, rfl, rfl, Nat.le_refl _, fun _ _ => rfl⟩
theorem below_draws (B : Nat) (w : World) (n : Nat) : Below B w (w.drewN n) := ⟨rfl, rfl, rfl, Nat.le_refl _, fun _ _ => rfl⟩
def Stop (p : Prop) : Prop := p
theorem Stop.out {p : Prop} (h : p) : Stop p := h
section
variable {P : Program} {ops : Array Oper} {Q : Exit -> Act -> World -> Prop} {d : Option Tmp} {ty : TypeId} {pos : String} {aft : Array Edge} {g : Option (Nat × Bool)} {rest : List Oper} {a : Act} {w : World}
theorem stop_append {xs : Array Operand} {ts : Array TypeId} (h : Stop (wpList P ops Q (⟨d, .call ⟨.builtin .append, xs, ts⟩, ty, pos, aft, g⟩ :: rest) a w)) : wpList P ops Q (⟨d, .call ⟨.builtin .append, xs, ts⟩, ty, pos, aft, g⟩ :: rest) a w := h
theorem stop_copy {xs : Array Operand} {ts : Array TypeId} (h : Stop (wpList P ops Q (⟨d, .call ⟨.builtin .copy, xs, ts⟩, ty, pos, aft, g⟩ :: rest) a w)) : wpList P ops Q (⟨d, .call ⟨.builtin .copy, xs, ts⟩, ty, pos, aft, g⟩ :: rest) a w := h
theorem stop_make {t : TypeId} {x y : Operand} (h : Stop (wpList P ops Q (⟨d, .makeSlice t x y, ty, pos, aft, g⟩ :: rest) a w)) : wpList P ops Q (⟨d, .makeSlice t x y, ty, pos, aft, g⟩ :: rest) a w := h
theorem stop_slice {t : TypeId} {x : Operand} {lo hi mx : Option Operand} (h : Stop (wpList P ops Q (⟨d, .slice t x lo hi mx, ty, pos, aft, g⟩ :: rest) a w)) : wpList P ops Q (⟨d, .slice t x lo hi mx, ty, pos, aft, g⟩ :: rest) a w := h
theorem stop_store {t : TypeId} {x y : Operand} (h : Stop (wpList P ops Q (⟨d, .store t x y, ty, pos, aft, g⟩ :: rest) a w)) : wpList P ops Q (⟨d, .store t x y, ty, pos, aft, g⟩ :: rest) a w := h
end
section
variable {α : Type} {f : α -> Value} {P : Program} {w : World} {ops : Array Oper} {rest : List Oper} {o : Oper} {a : Act} {Q : Exit -> Act -> World -> Prop}
theorem wpList_want (hw : Region.wanted o (yielded ops a.tmps) = true) (h : ∀ K : Act -> World -> Prop, (∀ a w, wpList P ops Q rest a w -> K a w) -> o.wp P a w K Q) : wpList P ops Q (o :: rest) a w :=
 wpList_step fun K hK => by rw [if_pos hw]; exact h K hK
theorem wp_append_row {K : Act -> World -> Prop} (s x : Operand) (t : TypeId)
  (ho : o.op = .call { callee := .builtin .append, args := #[s, x], argTypes := #[t, t] })
  (base : Nat) (e : TypeId) (bytes : Nat) (z : Value) (ht : P.underlying t = some (.slice e)) (hi : (P.info? e).map (fun i => (i.zero, i.size, i.bytes)) = some (some z, 1, bytes)) (hzs : z.cells.size = 1)
  (hf : ∀ x, (f x).oneCell' = true)
  (l l2 : List α) (hown : OwnOf f e base w (a.eval s) l) (hrow : RowOf f w (a.eval x) l2)
  (hm : l.length + l2.length <= maxLen) (hby : (l.length + l2.length) * bytes <= 140737488355328) (hbase : base <= w.heap.size) (w0 : World) (hb : Below base w0 w)
  (hK : ∀ v' w', OwnOf f e base w' v' (l ++ l2) -> Below base w0 w' -> w.grownBy w' (a.eval s).ownBlock -> K (a.put o.dst v') w') : o.wp P a w K Q := by
 obtain ⟨i, hi1, hi2, hi3, hi4⟩ := info_parts hi; obtain ⟨ao, cap, hv, h2, h3, h4, h5⟩ := hrow
 by_cases hl2 : l2 = []
 ·subst hl2
  cases ao with
  | none =>
   have hc := h4 rfl; subst hc; have hrun := run_append_owned_none (P := P) (w := w) base t o.type e i 1 ht hi1 (a.eval s) l.length (l.map f) hown; unfold Oper.wp; simp [execOp, ho, resolve, invoke, builtin, hv, hrun, Result.andThen]
   exact hK _ _ (by simpa using hown) hb ⟨rfl, rfl, rfl, Nat.le_refl _, fun _ _ _ => rfl⟩
  | some ad =>
   refine wp_append_own w s x t ho base e i z 1 bytes ht hi1 hi2 hi3 hi4 hzs (by decide) (a.eval s) l.length (l.map f) rfl hown ad 0 cap [] (by simpa using hv) (by simp) (by simp) (by simp) hm hby hbase ?_; intro v' w' hown' hg _; exact hK v' w' (by unfold OwnOf; simpa using hown') (hb.trans (grown_below hg hbase (fun k hk => (World.ownsRow.lt hown k hk).1))) hg
 cases ao with
 | none =>
  have hc := h4 rfl; subst hc; exact absurd (List.eq_nil_of_length_eq_zero (by omega)) hl2
 | some ad =>
  obtain ⟨b, off, sp⟩ := ad; obtain ⟨g1, g2, g3⟩ := h5 _ rfl hl2; simp only at g1 g2 g3; subst g1; refine wp_append_own w s x t ho base e i z 1 bytes ht hi1 hi2 hi3 hi4 hzs (by decide) (a.eval s) l.length (l.map f) rfl hown ⟨b, off, none⟩ l2.length cap (l2.map f) hv (by simp) ?_ ?_ hm hby hbase ?_
  ·intro j u hu
   rw [Addr.add_lit]; simp only [List.getElem?_map, Option.map_eq_some_iff] at hu; obtain ⟨y, hy, rfl⟩ := hu; obtain ⟨hj, rfl⟩ := List.getElem?_eq_some_iff.1 hy; exact g3 j hj
  ·intro u hu
   obtain ⟨y, _, rfl⟩ := List.mem_map.1 hu; exact hf y
  ·intro v' w' hown' hg _
   exact hK v' w' (by unfold OwnOf; simpa using hown') (hb.trans (grown_below hg hbase (fun k hk => (World.ownsRow.lt hown k hk).1))) hg
theorem wpList_append_row (hgd : Region.wanted o (yielded ops a.tmps) = true) (s x : Operand) (t : TypeId)
  (ho : o.op = .call { callee := .builtin .append, args := #[s, x], argTypes := #[t, t] })
  (base : Nat) (e : TypeId) (bytes : Nat) (z : Value) (ht : P.underlying t = some (.slice e)) (hi : (P.info? e).map (fun i => (i.zero, i.size, i.bytes)) = some (some z, 1, bytes)) (hzs : z.cells.size = 1)
  (hf : ∀ x, (f x).oneCell' = true)
  (l l2 : List α) (hown : OwnOf f e base w (a.eval s) l) (hrow : RowOf f w (a.eval x) l2)
  (hm : l.length + l2.length <= maxLen) (hby : (l.length + l2.length) * bytes <= 140737488355328) (hbase : base <= w.heap.size) (w0 : World) (hb : Below base w0 w)
  (hK : ∀ v' w', OwnOf f e base w' v' (l ++ l2) -> Below base w0 w' -> w.grownBy w' (a.eval s).ownBlock -> wpList P ops Q rest (a.put o.dst v') w') : wpList P ops Q (o :: rest) a w :=
 wpList_want hgd fun _ hK' => wp_append_row s x t ho base e bytes z ht hi hzs hf l l2 hown hrow hm hby hbase w0 hb fun v' w' h1 h2 h3 => hK' _ _ (hK v' w' h1 h2 h3)
theorem run_sizeOf_one {e : TypeId} (h : (P.info? e).map (fun i => i.size) = some 1) (w : World) : (sizeOf e).run P w = .ok 1 w := by
 obtain ⟨i, hi, hs⟩ := Option.map_eq_some_iff.1 h; simp [sizeOf, typeInfo, hi, hs]
theorem run_storeVar_row (w : World) (g : Nat) (t ty : TypeId) (cur cs : Array Value) (hg : w.heap[g]? = some (.cells cur t (0, 0))) (hsz : cur.size = cs.size)
  (hi : (P.info? ty).map (·.size) = some cs.size) (h1 : ∀ v ∈ cs.toList, v.oneCell' = true) :
  (storeVar ty ⟨g, 0, none⟩ (.agg cs)).run P w = .ok () (w.setRow g cs) := by
 have hst := run_storeCells_at P g 0 t cs.toList 0 cur w hg (by simp; omega) h1
 cases hq : P.info? ty with
 | none => simp [hq] at hi
 | some i =>
  have hs : i.size = cs.size := by simpa [hq] using hi
  have e : (cur.toList.take (0 + 0) ++ cs.toList ++ cur.toList.drop (0 + 0 + cs.toList.length)).toArray = cs := by
   rw [List.drop_of_length_le (by simp; omega)]; simp
  rw [e] at hst; simp [storeVar, Value.cells, Sem.run_bind, sizeOf, typeInfo, hq, hs, hst]
theorem wpList_store_all (hgd : Region.wanted o (yielded ops a.tmps) = true) (ty : TypeId) (x v : Operand) (ho : o.op = .store ty x v) (hdst : o.dst = none)
  (g : Nat) (hx : a.eval x = .pointer (some ⟨g, 0, none⟩)) (cs : Array Value) (hv : a.eval v = .agg cs) (t : TypeId) (cur : Array Value) (hg : w.heap[g]? = some (.cells cur t (0, 0))) (hsz : cur.size = cs.size)
  (hi : (P.info? ty).map (·.size) = some cs.size) (h1 : ∀ v ∈ cs.toList, v.oneCell' = true)
  (hK : wpList P ops Q rest a (w.setRow g cs)) : wpList P ops Q (o :: rest) a w := by
 refine wpList_want hgd fun K hK' => ?_; have hrun := run_storeVar_row (P := P) w g t ty cur cs hg hsz hi h1; unfold Oper.wp execOp; simp only [ho, hx, hv, Instr.storeAt, Instr.sureAddr, Sem.run_bind, Sem.run_pure, Result.andThen_ok, hrun, Oper.upon_skip, hdst]; exact hK' _ _ hK
theorem run_index_cell (w : World) (t e : TypeId) (n : Nat) (cs : Array Value) (k : IntKind) (i : Int) (j : Nat) (v : Value) (ht : P.underlying t = some (.array n e)) (hs : (P.info? e).map (fun i => i.size) = some 1)
  (he : (match P.underlying e with | some (.struct _) => false | some (.array _ _) => false | none => false | _ => true) = true) (hi : i = j) (hj : j < n) (hv : cs[j]? = some v) :
  (Instr.index t (.agg cs) (.int k i)).run P w = .ok v w := by
 subst hi
 have h1 : (isAgg e).run P w = .ok false w := by
  unfold isAgg
  cases hu : P.underlying e with
  | none => simp [hu] at he
  | some d =>
   rw [Sem.run_bind, run_underlying hu w]; cases d <;> simp_all
 simp [Instr.index, asIntOf, run_underlying ht, run_sizeOf_one hs, part, h1, Sem.run_bind, hv]
 intro h; omega
end
end Go.Tab
namespace Go.Proofs.YtbcdaaobbebooaaGreatDoor
set_option maxRecDepth 100000
set_option maxHeartbeats 20000000
open Go.RowKit Go.Tab
def Cells (w : World) (g : Nat) (cs : Array Value) (t : TypeId) : Prop := w.heap[g]? = some (.cells cs t (0, 0))
section
variable {w w' : World} {g : Nat} {cs : Array Value} {t : TypeId}
theorem Cells.lt (h : Cells w g cs t) : g < w.heap.size := (Array.getElem?_eq_some_iff.1 h).1
theorem Cells.cell (h : Cells w g cs t) (j : Nat) (v : Value) (hj : cs[j]? = some v) : w.cell? ⟨g, j, none⟩ = some v := by
 rw [cell_of_row w g _ cs t (0, 0) h]; exact hj
theorem Cells.frozen (h : Cells w g cs t) (j : Nat) : w.frozen? ⟨g, j, none⟩ = false := by simp [World.frozen?, show w.heap[g]? = _ from h]
theorem Cells.kept {row : Option Nat} (h : Cells w g cs t) (hg : w.grownBy w' row) (hne : some g ≠ row) : Cells w' g cs t := (hg.block g h.lt hne).trans h
theorem Cells.below {B : Nat} (h : Cells w g cs t) (hb : Below B w w') (hB : g < B) : Cells w' g cs t := (hb.block g hB).trans h
theorem Cells.alloc (h : Cells w g cs t) (o : Obj) : Cells (w.alloc o) g cs t := h.kept (World.grownBy_alloc w o none) (by simp)
theorem Cells.drew (h : Cells w g cs t) : Cells w.drew g cs t := h
theorem Cells.drewN (h : Cells w g cs t) (n : Nat) : Cells (w.drewN n) g cs t := h
theorem Cells.set (h : Cells w g cs t) (j : Nat) (hj : j < cs.size) (v : Value) : Cells (w.setCell ⟨g, j, none⟩ v) g (cs.set j v hj) t := by
 obtain ⟨hlt, hk⟩ := Array.getElem?_eq_some_iff.1 h; show (w.heap.modify g _)[g]? = _; rw [Array.getElem?_eq_getElem (by rw [Array.size_modify]; exact hlt), Array.getElem_modify_self, hk]; simp [Array.setIfInBounds, hj]
theorem Cells.new (w : World) (cs : Array Value) (t : TypeId) : Cells (w.alloc (.cells cs t)) w.heap.size cs t := by
 show (w.heap.push _)[w.heap.size]? = _; simp
theorem Cells.shape (h : Cells w g cs t) : w.shape? g = some (t, cs.size) := by simp [World.shape?, show w.heap[g]? = _ from h]
theorem Cells.setOther (h : Cells w g cs t) (x : Addr) (u : Value) (hne : x.block ≠ g) : Cells (w.setCell x u) g cs t :=
 (Below.heap_setCell _ _ _ _ (fun e => hne e.symm)).trans h
end
theorem grownBy_setAt (W : World) (b j : Nat) (v : Value) : W.grownBy (W.setCell ⟨b, j, none⟩ v) (some b) :=
 ⟨rfl, rfl, rfl, by simp [World.setCell], fun k _ hk => Below.heap_setCell _ _ _ k (fun e => hk (by rw [e]))⟩
theorem _root_.Go.Tab.RowOf.shape {α : Type} {f : α -> Value} {w : World} {v : Value} {l : List α} (h : RowOf f w v l) : ∃ a n cap, v = .slice a n cap /\ n = l.length := by
 obtain ⟨a, cap, h1, _⟩ := h; exact ⟨a, _, cap, h1, rfl⟩
theorem own_ne_box {α : Type} {f : α -> Value} {E : TypeId} {base : Nat} {w : World} {v : Value} {l : List α} {g : Nat} {cs : Array Value} {t : TypeId} (h : OwnOf f E base w v l) (hc : Cells w g cs t) (ht : t ≠ E) : v.ownBlock ≠ some g := by
 rcases h.2 with ⟨rfl, _⟩ | ⟨b, cap, cur, rfl, _, hg, _⟩
 ·simp [Value.ownBlock]
 ·intro he
  simp only [Value.ownBlock, Option.some.injEq] at he; subst he; have hc' : w.heap[b]? = some (.cells cs t (0, 0)) := hc; rw [hg] at hc'; simp only [Option.some.injEq, Obj.cells.injEq] at hc'; exact ht hc'.2.1.symm
def Beside (E : TypeId) (g : Nat) (w w' : World) : Prop :=
 w.heap.size <= w'.heap.size /\ ∀ k o, k ≠ g -> w.heap[k]? = some o -> (∀ cs fr, o ≠ .cells cs E fr) -> w'.heap[k]? = some o
theorem Beside.refl {E : TypeId} {g : Nat} {w : World} : Beside E g w w := ⟨Nat.le_refl _, fun _ _ _ h _ => h⟩
theorem Beside.trans {E : TypeId} {g : Nat} {w w' w'' : World} (h : Beside E g w w') (h2 : Beside E g w' w'') : Beside E g w w'' :=
 ⟨Nat.le_trans h.1 h2.1, fun k o hk ho hn => h2.2 k o hk (h.2 k o hk ho hn) hn⟩
theorem Beside.alloc {E : TypeId} {g : Nat} {w w' : World} (h : Beside E g w w') (o : Obj) : Beside E g w (w'.alloc o) :=
 h.trans ⟨by simp, fun k o' _ ho _ => ((World.grownBy_alloc w' o none).block k (Array.getElem?_eq_some_iff.1 ho).1 (by simp)).trans ho⟩
theorem Beside.setCell {E : TypeId} {g : Nat} {w w' : World} (h : Beside E g w w') (j : Nat) (v : Value) : Beside E g w (w'.setCell ⟨g, j, none⟩ v) :=
 h.trans ⟨by simp [World.setCell], fun k o' hk ho _ => by rw [Below.heap_setCell _ _ _ _ hk]; exact ho⟩
theorem Beside.grown {E : TypeId} {g : Nat} {w w' w'' : World} {row : Option Nat} (h : Beside E g w w') (hg : w'.grownBy w'' row) (hr : ∀ k, row = some k -> k = g \/ ∃ cs fr, w'.heap[k]? = some (.cells cs E fr)) : Beside E g w w'' :=
 h.trans ⟨hg.size, fun k o hk ho hn => by
  refine (hg.block k (Array.getElem?_eq_some_iff.1 ho).1 ?_).trans ho; intro e; rcases hr k e.symm with rfl | ⟨cs, fr, hc⟩
  ·exact hk rfl
  ·rw [ho] at hc; cases hc; exact hn _ _ rfl⟩
theorem Beside.cells {E : TypeId} {g : Nat} {w w' : World} (h : Beside E g w w') {k : Nat} {cs : Array Value} {t : TypeId} (hc : Cells w k cs t) (hk : k ≠ g) (ht : t ≠ E) : Cells w' k cs t :=
 h.2 k _ hk hc (fun cs' fr e => by cases e; exact ht rfl)
theorem own_is_row {α : Type} {f : α -> Value} {E : TypeId} {base : Nat} {w : World} {v : Value} {l : List α} (h : OwnOf f E base w v l) : ∀ k, v.ownBlock = some k -> ∃ cs fr, w.heap[k]? = some (.cells cs E fr) := by
 intro k hk; rcases h.2 with ⟨rfl, _⟩ | ⟨b, cap, cur, rfl, _, hg, _⟩
 ·simp [Value.ownBlock] at hk
 ·simp only [Value.ownBlock, Option.some.injEq] at hk
  subst hk; exact ⟨_, _, hg⟩
def bs (s : ByteArray) : List Nat := s.data.toList.map UInt8.toNat
theorem bs_length (s : ByteArray) : (bs s).length = s.size := by
 unfold bs; rw [List.length_map, Array.length_toList]; rfl
theorem bs_lt {s : ByteArray} : ∀ x ∈ bs s, x < 256 := by
 intro x hx; obtain ⟨c, _, rfl⟩ := List.mem_map.1 hx; exact c.toNat_lt
theorem bs_get {s : ByteArray} {i : Nat} (h : i < s.size) : (s[i]'h).toNat = (bs s)[i]'(by rw [bs_length]; exact h) := by
 simp [bs]; rfl
theorem bs_at {s : ByteArray} {i : Nat} {l : List Nat} (h : (bs s).drop i = l) {j : Nat} (hj : j < l.length) : ∃ h' : i + j < s.size, (s[i + j]'h').toNat = l[j] := by
 subst h; simp [bs_length] at hj
 refine ⟨by omega, ?_⟩; rw [bs_get]; simp
theorem emp_of {d : ByteArray} (h0 : d.size = 0) : d = ⟨#[]⟩ := by
 cases d with
 | mk a => exact congrArg ByteArray.mk (Array.eq_empty_of_size_eq_zero h0)
theorem ne_emp {d : ByteArray} (h0 : ¬ d.size = 0) : d.toList.isEmpty = false := by
 rw [ByteArray.toList_eq, List.isEmpty_eq_false_iff]; intro h; exact h0 (by have := congrArg List.length h; simpa using this)
def strL (l : List UInt8) : ByteArray := ⟨l.toArray⟩
theorem strL_list (l : List UInt8) : (strL l).data.toList = l := rfl
theorem strL_of (s : ByteArray) : s = strL s.data.toList := by cases s; rfl
theorem str_ext {a b : ByteArray} (h : a.data.toList = b.data.toList) : a = b := by rw [strL_of a, strL_of b, h]
theorem size_list (s : ByteArray) : s.size = s.data.toList.length := by cases s; rfl
theorem size_strL (l : List UInt8) : (strL l).size = l.length := by rw [size_list]; rfl
theorem get_list {s : ByteArray} {i : Nat} (h : i < s.size) : s[i]'h = s.data.toList[i]'(by rw [<- size_list]; exact h) := rfl
theorem ext_list (s : ByteArray) (a b : Nat) : (s.extract a b).data.toList = (s.data.toList.take b).drop a := by
 rw [ByteArray.data_extract, Array.toList_extract, List.extract_eq_take_drop, List.drop_take]
theorem app_list (s t : ByteArray) : (s ++ t).data.toList = s.data.toList ++ t.data.toList := by rw [ByteArray.data_append, Array.toList_append]
theorem ret_bool {a b : Bool} (h : a = b) : Ending.returned (.bool a) = .returned (.bool b) := by rw [h]
theorem ret_num {k : IntKind} {a b : Int} (h : a = b) : Ending.returned (.int k a) = .returned (.int k b) := by rw [h]
def dig (c : Nat) : Bool := decide (48 <= c /\ c <= 57)
def numR (neg : Bool) (d : ByteArray) (e : Int) : Bool :=
 if d.size = 0 then !neg && decide (e = 0) else
 if 1000 < d.size \/ e < -10000 \/ 10000 < e then false else
 (bs d).all dig && (decide ((bs d)[0]? ≠ some 48) && decide ((bs d)[d.size - 1]? ≠ some 48))
theorem numR_empty {neg : Bool} {d : ByteArray} {e : Int} (h : d.size = 0) : numR neg d e = (!neg && decide (e = 0)) := by rw [numR, if_pos h]
theorem numR_great {neg : Bool} {d : ByteArray} {e : Int} (h : d.size ≠ 0) (h1 : 1000 < d.size \/ e < -10000 \/ 10000 < e) : numR neg d e = false := by rw [numR, if_neg h, if_pos h1]
theorem numR_not {neg : Bool} {d : ByteArray} {e : Int} {k : Nat} (h : k < d.size) (h1 : ¬ (48 <= (d[k]'h).toNat /\ (d[k]'h).toNat <= 57)) : numR neg d e = false := by
 have hm : (bs d)[k]'(by rw [bs_length]; exact h) ∈ bs d := List.getElem_mem _; rw [<- bs_get h] at hm
 have h2 : (bs d).all dig = false := by
  rw [Bool.eq_false_iff]; intro h3; have := List.all_eq_true.1 h3 _ hm; simp only [dig, decide_eq_true_eq] at this; exact h1 this
 rw [numR, if_neg (by omega), h2]; simp
theorem numR_yes {neg : Bool} {d : ByteArray} {e : Int} (h0 : 0 < d.size) (h1 : ¬ (1000 < d.size \/ e < -10000 \/ 10000 < e)) (h : ∀ k (hk : k < d.size), 48 <= (d[k]'hk).toNat /\ (d[k]'hk).toNat <= 57) :
  numR neg d e = (decide ((d[0]'h0).toNat ≠ 48) && decide ((d[d.size - 1]'(by omega)).toNat ≠ 48)) := by
 have h2 : (bs d).all dig = true := by
  rw [List.all_eq_true]; intro x hx; obtain ⟨k, hk, rfl⟩ := List.getElem_of_mem hx; rw [bs_length] at hk; rw [<- bs_get hk]
  simpa [dig] using h k hk
 rw [numR, if_neg (by omega), if_neg h1, h2, Bool.true_and, List.getElem?_eq_getElem (by rw [bs_length]; exact h0), List.getElem?_eq_getElem (by rw [bs_length]; omega), <- bs_get h0, <- bs_get (by omega)]; simp
theorem numRight_any (neg : Bool) (d : ByteArray) (e : Int) (w : World) (hd : d.size <= 1048576) :
  Calls Tryz.prog 180 #[.agg #[.bool neg, .string d, .int .i64 e]] w fun r w' => r = .returned (.bool (numR neg d e)) /\ Below w.heap.size w w' := by
 have hx0 := Cells.new w #[.bool neg, .string d, .int .i64 e] 122; have hb0 : Below w.heap.size w (w.alloc (.cells #[.bool neg, .string d, .int .i64 e] 122)) := (Below.refl _ w).alloc (Nat.le_refl _) _
 by_cases h0 : d.size = 0
 ·have hR := Lib.hid (numR_empty (neg := neg) (e := e) h0)
  cases neg
  all_goals
   go_enter Tryz.func180, Tryz.ntmps180; go_wp2; go_ret; refine ⟨?_, hb0⟩; rw [hR.out]; first | rfl | (congr 2; by_cases he : e = 0 <;> simp [he])
 ·by_cases h1 : 1000 < d.size \/ e < -10000 \/ 10000 < e
  ·have hR := Lib.hid (numR_great (neg := neg) h0 h1)
   have h1' : 1000 < d.size \/ (d.size <= 1000 /\ e < -10000) \/ (d.size <= 1000 /\ -10000 <= e /\ 10000 < e) := by omega
   clear h1; have q0 : ((d.size : Int) == 0) = false := by rw [beq_eq_false_iff_ne]; omega
   have q1 : decide ((1000 : Int) < (d.size : Int)) = decide (1000 < d.size) := by congr 1; apply propext; omega
   have q2 : decide (e < -10000) = decide (e < -10000) := rfl; rcases h1' with h1 | ⟨h1, h2⟩ | ⟨h1, h2, h3⟩
   all_goals
    go_enter Tryz.func180, Tryz.ntmps180; go_wp2; go_ret; refine ⟨?_, hb0⟩; rw [hR.out]; try rfl
  ·have H1 := Lib.hid h1
   have h2 : d.size <= 1000 /\ -10000 <= e /\ e <= 10000 := by omega
   clear h1; have hp : 0 < d.size := by omega
   go_enter Tryz.func180, Tryz.ntmps180; go_wp2_with fail; go_loop [31] (fun i => ∃ k : Nat, k <= d.size /\ i = .int .i64 (k : Int) /\ ∀ j (hj : j < d.size), j < k -> 48 <= (d[j]'hj).toNat /\ (d[j]'hj).toNat <= 57) (fun i => d.size - (intOf i).toNat)
   case atStart => exact ⟨0, Nat.zero_le _, rfl, fun j _ h => by omega⟩
   case round =>
    obtain ⟨k, hk, rfl, hall⟩ := hrel; have HA := Lib.hid hall; clear hall; have hx0c0 := hx0.cell 0 _ rfl; have hx0f0 := hx0.frozen 0; have hx0c1 := hx0.cell 1 _ rfl; have hx0f1 := hx0.frozen 1; have hx0c2 := hx0.cell 2 _ rfl; have hx0f2 := hx0.frozen 2
    by_cases hkl : k < d.size
    ·by_cases hdg : 48 <= (d[k]'hkl).toNat /\ (d[k]'hkl).toNat <= 57
     ·have HA2 : Hid (∀ j (hj : j < d.size), j < k + 1 -> 48 <= (d[j]'hj).toNat /\ (d[j]'hj).toNat <= 57) := Lib.hid (fun j hj h => by
       by_cases hjk : j = k
       ·subst hjk; exact hdg
       ·exact HA.out j hj (by omega))
      clear HA; go_wp2; go_round
      case rel => exact ⟨k + 1, by omega, by go_num, HA2.out⟩
      case measure => simp [intOf]; omega
     ·have hR := Lib.hid (numR_not (neg := neg) (e := e) hkl hdg)
      have hdg' : (d[k]'hkl).toNat < 48 \/ (48 <= (d[k]'hkl).toNat /\ 57 < (d[k]'hkl).toNat) := by omega
      clear hdg; rcases hdg' with hdg | hdg
      all_goals
       go_wp2; go_ret; refine ⟨?_, hb0⟩; rw [hR.out]; try rfl
    ·obtain rfl : k = d.size := by omega
     have hR := Lib.hid (numR_yes (neg := neg) hp H1.out (fun j hj => HA.out j hj hj))
     by_cases hz : (d[0]'hp).toNat = 48
     ·go_wp2
      go_ret; refine ⟨?_, hb0⟩; rw [hR.out]; simp [hz]
     ·go_wp2
      go_ret; refine ⟨?_, hb0⟩; rw [hR.out]; have hz' : ¬ (((d[0]'hp).toNat : Int) = 48) := by omega
      by_cases hy : (d[d.size - 1]'(by omega)).toNat = 48
      ·simp [hz, hz', hy, bne]
      ·have hy' : ¬ (((d[d.size - 1]'(by omega)).toNat : Int) = 48) := by omega
       simp [hz, hz', hy, hy', bne]
end Go.Proofs.YtbcdaaobbebooaaGreatDoor
namespace Go.Proofs.YtbcdaaobbebooaaGreatDoor
set_option maxRecDepth 100000
set_option maxHeartbeats 20000000
abbrev Bs := List UInt8
def dg (c : UInt8) : Bool := dig c.toNat
def digs : Bs -> Nat
 | [] => 0
 | c :: l => if dg c then digs l + 1 else 0
theorem digs_le : ∀ l : Bs, digs l <= l.length
 | [] => Nat.le_refl _
 | c :: l => by
  have := digs_le l; simp only [digs, List.length_cons]; split <;> omega
theorem digs_app : ∀ (a b : Bs), a.all dg = true -> digs (a ++ b) = a.length + digs b
 | [], b, _ => by simp
 | c :: a, b, h => by
  rw [List.all_cons, Bool.and_eq_true] at h; rw [List.cons_append, digs, if_pos h.1, digs_app a b h.2, List.length_cons]; omega
theorem digs_take : ∀ l : Bs, (l.take (digs l)).all dg = true
 | [] => rfl
 | c :: l => by
  rw [digs]; split
  ·next h => rw [List.take_succ_cons, List.all_cons, h, digs_take l]; rfl
  ·rfl
theorem digs_none : ∀ (l : Bs), (∀ c, l.head? = some c -> dg c = false) -> digs l = 0
 | [], _ => rfl
 | c :: l, h => by rw [digs, h c rfl]; rfl
def fracS : Bs -> Nat
 | [] => 0
 | p :: l => if p = 46 /\ digs l ≠ 0 then 1 + digs l else 0
def sgS : Bs -> Nat
 | [] => 0
 | c :: _ => if c = 43 \/ c = 45 then 1 else 0
def powS : Bs -> Nat
 | [] => 0
 | m :: t => if (m = 101 \/ m = 69) /\ digs (t.drop (sgS t)) ≠ 0 then 1 + sgS t + digs (t.drop (sgS t)) else 0
def intS : Bs -> Nat
 | [] => 0
 | c :: l => if c = 48 then 1 else digs (c :: l)
def mnS : Bs -> Nat
 | [] => 0
 | c :: _ => if c = 45 then 1 else 0
def tailS (l : Bs) : Nat := fracS l + powS (l.drop (fracS l))
def scanN (l : Bs) : Nat :=
 if intS (l.drop (mnS l)) = 0 then 0 else mnS l + intS (l.drop (mnS l)) + tailS (l.drop (mnS l + intS (l.drop (mnS l))))
def signN (c : UInt8) : Nat := if c = 45 then 0 else if c = 43 then 1 else if c = 48 then 2 else if 49 <= c.toNat /\ c.toNat <= 57 then 3 else if c = 46 then 4 else if c = 101 \/ c = 69 then 5 else 6
def stepsN : List Nat := [1, 9, 2, 3, 9, 9, 9,  9, 9, 2, 3, 9, 9, 9,  9, 9, 9, 9, 4, 6, 9,  9, 9, 3, 3, 4, 6, 9,  9, 9, 5, 5, 9, 9, 9,  9, 9, 5, 5, 9, 6, 9,  7, 7, 8, 8, 9, 9, 9,  9, 9, 8, 8, 9, 9, 9,  9, 9, 8, 8, 9, 9, 9]
def stepN (st sg : Nat) : Nat := stepsN.getD (7 * st + sg) 9
def wholeB (st : Nat) : Bool := st == 2 || (st == 3 || (st == 5 || st == 8))
def autoS : Nat -> Nat -> Nat -> Bs -> Nat
 | _, _, L, [] => L
 | st, i, L, c :: l => if stepN st (signN c) = 9 then L else autoS (stepN st (signN c)) (i + 1) (if wholeB (stepN st (signN c)) then i + 1 else L) l
inductive Sort6 (c : UInt8) : Prop
 | minus : c = 45 -> dg c = false -> signN c = 0 -> Sort6 c
 | plus : c = 43 -> dg c = false -> signN c = 1 -> Sort6 c
 | nought : c = 48 -> dg c = true -> signN c = 2 -> Sort6 c
 | digit : dg c = true -> c ≠ 48 -> c ≠ 45 -> c ≠ 43 -> c ≠ 46 -> c ≠ 101 -> c ≠ 69 -> signN c = 3 -> Sort6 c
 | point : c = 46 -> dg c = false -> signN c = 4 -> Sort6 c
 | mark : (c = 101 \/ c = 69) -> c ≠ 46 -> c ≠ 45 -> c ≠ 43 -> c ≠ 48 -> dg c = false -> signN c = 5 -> Sort6 c
 | other : c ≠ 45 -> c ≠ 43 -> c ≠ 48 -> dg c = false -> c ≠ 46 -> c ≠ 101 -> c ≠ 69 -> signN c = 6 -> Sort6 c
theorem sort6 (c : UInt8) : Sort6 c := by
 by_cases h1 : c = 45
 ·subst h1; exact .minus rfl rfl rfl
 by_cases h2 : c = 43
 ·subst h2; exact .plus rfl rfl rfl
 by_cases h3 : c = 48
 ·subst h3; exact .nought rfl rfl rfl
 by_cases h4 : 49 <= c.toNat /\ c.toNat <= 57
 ·refine .digit (by simp only [dg, dig, decide_eq_true_eq]; omega) h3 h1 h2 ?_ ?_ ?_ (by rw [signN, if_neg h1, if_neg h2, if_neg h3, if_pos h4]) <;> (rintro rfl; revert h4; decide)
 have hd : dg c = false := by
  rw [Bool.eq_false_iff]; intro h; simp only [dg, dig, decide_eq_true_eq] at h; have : c.toNat ≠ 48 := fun e => h3 (UInt8.toNat_inj.1 e); omega
 by_cases h5 : c = 46
 ·subst h5; exact .point rfl rfl rfl
 by_cases h6 : c = 101 \/ c = 69
 ·exact .mark h6 h5 h1 h2 h3 hd (by rw [signN, if_neg h1, if_neg h2, if_neg h3, if_neg h4, if_neg h5, if_pos h6])
 ·exact .other h1 h2 h3 hd h5 (fun h => h6 (.inl h)) (fun h => h6 (.inr h)) (by rw [signN, if_neg h1, if_neg h2, if_neg h3, if_neg h4, if_neg h5, if_neg h6])
theorem auto_cons (st i L : Nat) (c : UInt8) (l : Bs) : autoS st i L (c :: l) = if stepN st (signN c) = 9 then L else autoS (stepN st (signN c)) (i + 1) (if wholeB (stepN st (signN c)) then i + 1 else L) l := rfl
theorem auto8 : ∀ (l : Bs) (i : Nat), autoS 8 i i l = i + digs l
 | [], i => rfl
 | c :: l, i => by
  have ih := auto8 l (i + 1); rw [auto_cons, digs]; cases sort6 c <;> simp_all [stepN, stepsN, wholeB] <;> omega
theorem auto7 (l : Bs) (i L : Nat) : autoS 7 i L l = if digs l = 0 then L else i + digs l := by
 cases l with
 | nil => rfl
 | cons c l =>
  have ih := auto8 l (i + 1); rw [auto_cons, digs]; cases sort6 c <;> simp_all [stepN, stepsN, wholeB] <;> omega
theorem auto6 (m : UInt8) (l : Bs) (i : Nat) (hm : m = 101 \/ m = 69) : autoS 6 (i + 1) i l = i + powS (m :: l) := by
 rw [powS]; simp only [hm, true_and]
 cases l with
 | nil => rfl
 | cons c l =>
  have ih := auto8 l (i + 2); have i7 := auto7 l (i + 2) i; rw [auto_cons, sgS]
  cases sort6 c with
  | minus h h2 h3 => 
   subst h; simp [stepN, stepsN, wholeB, h3, i7]
   split <;> omega
  | plus h h2 h3 =>
   subst h; simp [stepN, stepsN, wholeB, h3, i7]
   split <;> omega
  | nought h h2 h3 =>
   subst h; simp [stepN, stepsN, wholeB, h3, ih, digs, h2]
   omega
  | digit h h1 h2 h4 h5 h6 h7 h3 =>
   simp [stepN, stepsN, wholeB, h3, ih, digs, h, h2, h4]
   omega
  | point h h2 h3 =>
   subst h; simp [stepN, stepsN, h3, digs, h2]
  | mark h h1 h2 h4 h5 h6 h3 =>
   simp [stepN, stepsN, h3, digs, h2, h4, h6]
  | other h h1 h2 h4 h5 h6 h7 h3 =>
   simp [stepN, stepsN, h3, digs, h, h1, h4]
theorem auto5 : ∀ (l : Bs) (i : Nat), autoS 5 i i l = i + digs l + powS (l.drop (digs l))
 | [], i => rfl
 | c :: l, i => by
  have ih := auto5 l (i + 1); have i6 := auto6 c l i; rw [auto_cons, digs]
  cases sort6 c with
  | minus h h2 h3 => subst h; simp [stepN, stepsN, h3, h2, powS]
  | plus h h2 h3 => subst h; simp [stepN, stepsN, h3, h2, powS]
  | nought h h2 h3 => subst h; simp [stepN, stepsN, wholeB, h3, h2, ih]; omega
  | digit h h1 h2 h4 h5 h6 h7 h3 => simp [stepN, stepsN, wholeB, h3, h, ih]; omega
  | point h h2 h3 => subst h; simp [stepN, stepsN, h3, h2, powS]
  | mark h h1 h2 h4 h5 h6 h3 => simp [stepN, stepsN, wholeB, h3, h6, i6 h]
  | other h h1 h2 h4 h5 h6 h7 h3 => simp [stepN, stepsN, h3, h4, powS, h6, h7]
theorem auto4 (l : Bs) (i : Nat) : autoS 4 (i + 1) i l = i + tailS (46 :: l) := by
 cases l with
 | nil => rfl
 | cons c l =>
  have ih := auto5 l (i + 2); rw [auto_cons, tailS, fracS, digs]; have hp : ∀ x, powS (46 :: x) = 0 := fun x => by simp [powS]
  cases sort6 c with
  | minus h h2 h3 => subst h; simp [stepN, stepsN, h3, h2, hp]
  | plus h h2 h3 => subst h; simp [stepN, stepsN, h3, h2, hp]
  | nought h h2 h3 => subst h; simp [stepN, stepsN, wholeB, h3, h2, ih, Nat.add_comm 1]; omega
  | digit h h1 h2 h4 h5 h6 h7 h3 => simp [stepN, stepsN, wholeB, h3, h, ih, Nat.add_comm 1]; omega
  | point h h2 h3 => subst h; simp [stepN, stepsN, h3, h2, hp]
  | mark h h1 h2 h4 h5 h6 h3 => simp [stepN, stepsN, h3, h6, hp]
  | other h h1 h2 h4 h5 h6 h7 h3 => simp [stepN, stepsN, h3, h4, hp]
theorem auto2 (l : Bs) (i : Nat) : autoS 2 i i l = i + tailS l := by
 cases l with
 | nil => rfl
 | cons c l =>
  have i4 := auto4 l i; have i6 := auto6 c l i; rw [auto_cons]
  cases sort6 c with
  | minus h h2 h3 => subst h; simp [stepN, stepsN, h3, tailS, fracS, powS]
  | plus h h2 h3 => subst h; simp [stepN, stepsN, h3, tailS, fracS, powS]
  | nought h h2 h3 => subst h; simp [stepN, stepsN, h3, tailS, fracS, powS]
  | digit h h1 h2 h4 h5 h6 h7 h3 => simp [stepN, stepsN, h3, tailS, fracS, powS, h5, h6, h7]
  | point h h2 h3 => subst h; simp [stepN, stepsN, wholeB, h3, i4]
  | mark h h1 h2 h4 h5 h6 h3 => simp [stepN, stepsN, wholeB, h3, i6 h, tailS, fracS, h1]
  | other h h1 h2 h4 h5 h6 h7 h3 => simp [stepN, stepsN, h3, tailS, fracS, powS, h5, h6, h7]
theorem auto3 : ∀ (l : Bs) (i : Nat), autoS 3 i i l = i + digs l + tailS (l.drop (digs l))
 | [], i => rfl
 | c :: l, i => by
  have ih := auto3 l (i + 1); have i4 := auto4 l i; have i6 := auto6 c l i; rw [auto_cons, digs]
  cases sort6 c with
  | minus h h2 h3 => subst h; simp [stepN, stepsN, h3, h2, tailS, fracS, powS]
  | plus h h2 h3 => subst h; simp [stepN, stepsN, h3, h2, tailS, fracS, powS]
  | nought h h2 h3 => subst h; simp [stepN, stepsN, wholeB, h3, h2, ih]; omega
  | digit h h1 h2 h4 h5 h6 h7 h3 => simp [stepN, stepsN, wholeB, h3, h, ih]; omega
  | point h h2 h3 => subst h; simp [stepN, stepsN, wholeB, h3, h2, i4]
  | mark h h1 h2 h4 h5 h6 h3 => simp [stepN, stepsN, wholeB, h3, i6 h, tailS, fracS, h1, h6]
  | other h h1 h2 h4 h5 h6 h7 h3 => simp [stepN, stepsN, h3, h4, tailS, fracS, powS, h5, h6, h7]
theorem auto1 (l : Bs) (i : Nat) : autoS 1 i 0 l = if intS l = 0 then 0 else i + intS l + tailS (l.drop (intS l)) := by
 cases l with
 | nil => rfl
 | cons c l =>
  have i2 := auto2 l (i + 1); have i3 := auto3 l (i + 1); rw [auto_cons, intS]
  cases sort6 c with
  | minus h h2 h3 => subst h; simp [stepN, stepsN, h3, h2, digs]
  | plus h h2 h3 => subst h; simp [stepN, stepsN, h3, h2, digs]
  | nought h h2 h3 => subst h; simp [stepN, stepsN, wholeB, h3, i2]
  | digit h h1 h2 h4 h5 h6 h7 h3 => simp [stepN, stepsN, wholeB, h3, h, i3, h1, digs]; omega
  | point h h2 h3 => subst h; simp [stepN, stepsN, h3, h2, digs]
  | mark h h1 h2 h4 h5 h6 h3 => simp [stepN, stepsN, h3, h5, h6, digs]
  | other h h1 h2 h4 h5 h6 h7 h3 => simp [stepN, stepsN, h3, h2, h4, digs]
theorem auto_scan (l : Bs) : autoS 0 0 0 l = scanN l := by
 cases l with
 | nil => rfl
 | cons c l =>
  have i1 := auto1 l 1; have i2 := auto2 l 1; have i3 := auto3 l 1; rw [auto_cons, scanN, mnS]
  cases sort6 c with
  | minus h h2 h3 => subst h; simp [stepN, stepsN, wholeB, h3, i1, Nat.add_comm 1, Nat.add_assoc]
  | plus h h2 h3 => subst h; simp [stepN, stepsN, h3, h2, intS, digs]
  | nought h h2 h3 => subst h; simp [stepN, stepsN, wholeB, h3, i2, intS]
  | digit h h1 h2 h4 h5 h6 h7 h3 => simp [stepN, stepsN, wholeB, h3, h, i3, h1, h2, digs, intS]; omega
  | point h h2 h3 => subst h; simp [stepN, stepsN, h3, h2, intS, digs]
  | mark h h1 h2 h4 h5 h6 h3 => simp [stepN, stepsN, h3, h5, h6, h2, intS, digs]
  | other h h1 h2 h4 h5 h6 h7 h3 => simp [stepN, stepsN, h3, h, h2, h4, intS, digs]
end Go.Proofs.YtbcdaaobbebooaaGreatDoor
namespace Go.Proofs.YtbcdaaobbebooaaGreatDoor
set_option maxRecDepth 100000
set_option maxHeartbeats 20000000
structure NumTxt (l : Bs) (neg : Bool) (ip fr mk sg pw : Bs) : Prop where
 eq : l = (if neg then [45] else []) ++ (ip ++ ((if fr = [] then [] else 46 :: fr) ++ (mk ++ (sg ++ pw))))
 dip : ip.all dg = true
 dfr : fr.all dg = true
 dpw : pw.all dg = true
 ip0 : ip ≠ []
 lead : ip.head? = some 48 -> ip.length = 1
 exp : (mk = [] /\ sg = [] /\ pw = []) \/ ((mk = [101] \/ mk = [69]) /\ (sg = [] \/ sg = [43] \/ sg = [45]) /\ pw ≠ [])
theorem all_head {l : Bs} (h : l.all dg = true) {c : UInt8} (hc : l.head? = some c) : dg c = true := by
 cases l with
 | nil => simp at hc
 | cons a l => simp at hc; subst hc; rw [List.all_cons, Bool.and_eq_true] at h; exact h.1
theorem dg_lt {c : UInt8} (h : dg c = true) : 48 <= c.toNat /\ c.toNat <= 57 := by simpa [dg, dig] using h
theorem dg_ne {c : UInt8} (h : dg c = true) {d : UInt8} (hd : dg d = false) : c ≠ d := by rintro rfl; rw [h] at hd; cases hd
theorem digs_all (l : Bs) (h : l.all dg = true) : digs l = l.length := by
 have := digs_app l [] h; rw [List.append_nil] at this; rw [this]; rfl
theorem len_pos {l : Bs} (h : l ≠ []) : l.length ≠ 0 := fun e => h (List.eq_nil_of_length_eq_zero e)
section
variable {l : Bs} {neg : Bool} {ip fr mk sg pw : Bs}
theorem NumTxt.pow (h : NumTxt l neg ip fr mk sg pw) : powS (mk ++ (sg ++ pw)) = (mk ++ (sg ++ pw)).length := by
 rcases h.exp with ⟨rfl, rfl, rfl⟩ | ⟨hm, hs, hp⟩
 ·rfl
 ·have hl : digs pw = pw.length := digs_all pw h.dpw
  have hl0 := len_pos hp
  have hh : sg = [] -> sgS pw = 0 := fun _ => by
   cases pw with
   | nil => exact absurd rfl hp
   | cons c p =>
    have hc := all_head h.dpw (c := c) rfl; rw [sgS, if_neg]; intro e; rcases e with rfl | rfl <;> revert hc <;> decide
  have hs2 : sgS (sg ++ pw) = sg.length /\ (sg ++ pw).drop (sgS (sg ++ pw)) = pw := by
   rcases hs with rfl | rfl | rfl
   ·rw [List.nil_append, hh rfl]; exact ⟨rfl, rfl⟩
   ·exact ⟨rfl, rfl⟩
   ·exact ⟨rfl, rfl⟩
  have hm2 : ∃ m, mk = [m] /\ (m = 101 \/ m = 69) := by rcases hm with rfl | rfl <;> simp
  obtain ⟨m, rfl, hm3⟩ := hm2; rw [List.singleton_append, powS, hs2.2, hl, if_pos ⟨hm3, hl0⟩, hs2.1, List.length_cons, List.length_append]; omega
theorem NumTxt.pow_head (h : NumTxt l neg ip fr mk sg pw) {c : UInt8} (hc : (mk ++ (sg ++ pw)).head? = some c) : dg c = false /\ c ≠ 46 := by
 rcases h.exp with ⟨rfl, rfl, rfl⟩ | ⟨hm, hs, hp⟩
 ·simp at hc
 ·rcases hm with rfl | rfl <;> (simp at hc; subst hc; decide)
theorem NumTxt.tail (h : NumTxt l neg ip fr mk sg pw) : tailS ((if fr = [] then [] else 46 :: fr) ++ (mk ++ (sg ++ pw))) = ((if fr = [] then [] else 46 :: fr) ++ (mk ++ (sg ++ pw))).length := by
 have hp := h.pow; have hh := fun c => h.pow_head (c := c); generalize mk ++ (sg ++ pw) = r at hp hh ⊢
 by_cases hf : fr = []
 ·rw [if_pos hf, List.nil_append, tailS]
  have : fracS r = 0 := by
   cases r with
   | nil => rfl
   | cons c r => rw [fracS, if_neg]; intro e; exact (hh c rfl).2 e.1
  rw [this, List.drop_zero, hp, Nat.zero_add]
 ·rw [if_neg hf, tailS, List.cons_append]
  have hd : digs (fr ++ r) = fr.length := by rw [digs_app _ _ h.dfr, digs_none r (fun c hc => (hh c hc).1)]; rfl
  have : fracS (46 :: (fr ++ r)) = 1 + fr.length := by
   rw [fracS, hd, if_pos ⟨rfl, len_pos hf⟩]
  rw [this, Nat.add_comm 1, List.drop_succ_cons, List.drop_left, hp, List.length_cons, List.length_append]; omega
theorem NumTxt.int (h : NumTxt l neg ip fr mk sg pw) : intS (ip ++ ((if fr = [] then [] else 46 :: fr) ++ (mk ++ (sg ++ pw)))) = ip.length := by
 have hr : ∀ c, ((if fr = [] then [] else 46 :: fr) ++ (mk ++ (sg ++ pw))).head? = some c -> dg c = false := by
  intro c hc
  by_cases hf : fr = []
  ·rw [if_pos hf, List.nil_append] at hc; exact (h.pow_head hc).1
  ·rw [if_neg hf] at hc; simp at hc; subst hc; decide
 generalize (if fr = [] then [] else 46 :: fr) ++ (mk ++ (sg ++ pw)) = r at hr; have hi := h.ip0; have hl := h.lead; have hd := h.dip; have hx : digs (ip ++ r) = ip.length := by rw [digs_app _ _ hd, digs_none r hr]; rfl
 cases ip with
 | nil => exact absurd rfl hi
 | cons c p =>
  rw [List.cons_append, intS]; split
  ·next e => subst e; exact (hl rfl).symm
  ·rw [<- List.cons_append, hx]
theorem NumTxt.mn (h : NumTxt l neg ip fr mk sg pw) : mnS l = (if neg then 1 else 0) /\ l.drop (mnS l) = ip ++ ((if fr = [] then [] else 46 :: fr) ++ (mk ++ (sg ++ pw))) := by
 have he := h.eq; have hi := h.ip0; have hd := h.dip; generalize (if fr = [] then [] else 46 :: fr) ++ (mk ++ (sg ++ pw)) = r at he
 cases neg with
 | true => subst he; exact ⟨rfl, rfl⟩
 | false =>
  subst he
  have : mnS (ip ++ r) = 0 := by
   cases ip with
   | nil => exact absurd rfl hi
   | cons c p =>
    have hc := all_head hd (c := c) rfl; rw [List.cons_append, mnS, if_neg]; rintro rfl
    revert hc; decide
  refine ⟨?_, ?_⟩
  ·simpa using this
  ·show (ip ++ r).drop (mnS (ip ++ r)) = _
   rw [this]; rfl
theorem NumTxt.scan (h : NumTxt l neg ip fr mk sg pw) : scanN l = l.length /\ l ≠ [] := by
 have hi := len_pos h.ip0; have hm := h.mn
 have hl : l.length = mnS l + (l.drop (mnS l)).length := by
  have := congrArg List.length h.eq; rw [hm.2, hm.1, this, List.length_append]; cases neg <;> rfl
 refine ⟨?_, fun e => by subst e; have := h.eq; cases neg <;> simp at this; exact h.ip0 this.1⟩; rw [hm.2, List.length_append] at hl; rw [scanN, hm.2, h.int, if_neg hi, <- List.drop_drop, hm.2, List.drop_left, h.tail, hl]; omega
end
theorem pow_whole (l : Bs) (h : powS l = l.length) : ∃ mk sg pw, l = mk ++ (sg ++ pw) /\ pw.all dg = true /\ ((mk = [] /\ sg = [] /\ pw = []) \/ ((mk = [101] \/ mk = [69]) /\ (sg = [] \/ sg = [43] \/ sg = [45]) /\ pw ≠ [])) := by
 cases l with
 | nil => exact ⟨[], [], [], rfl, rfl, .inl ⟨rfl, rfl, rfl⟩⟩
 | cons m t =>
  rw [powS] at h; split at h
  ·next hc =>
   obtain ⟨hm, hd⟩ := hc; rw [List.length_cons] at h
   have hs : sgS t <= t.length := by
    cases t with
    | nil => exact Nat.le_refl _
    | cons c t => rw [sgS]; split <;> simp
   have hl : (t.drop (sgS t)).length = t.length - sgS t := by simp
   have hall : (t.drop (sgS t)).all dg = true := by
    have := digs_take (t.drop (sgS t)); rw [show digs (t.drop (sgS t)) = (t.drop (sgS t)).length by omega, List.take_length] at this; exact this
   refine ⟨[m], t.take (sgS t), t.drop (sgS t), by rw [List.take_append_drop]; rfl, hall, .inr ⟨by rcases hm with rfl | rfl <;> simp, ?_, fun e => hd (by rw [e]; rfl)⟩⟩
   cases t with
   | nil => exact .inl rfl
   | cons c t =>
    rw [sgS]; split
    ·next hc => rcases hc with rfl | rfl <;> simp
    ·simp
  ·simp at h
theorem frac_whole (l : Bs) : ∃ fr, l.take (fracS l) = (if fr = [] then [] else 46 :: fr) /\ fr.all dg = true := by
 cases l with
 | nil => exact ⟨[], rfl, rfl⟩
 | cons p l =>
  rw [fracS]; split
  ·next h =>
   obtain ⟨rfl, hd⟩ := h
   have hne : l.take (digs l) ≠ [] := by
    intro e; have h1 := congrArg List.length e; have h2 := digs_le l; rw [List.length_take, Nat.min_eq_left h2] at h1; exact hd (by simpa using h1)
   exact ⟨l.take (digs l), by rw [if_neg hne, Nat.add_comm 1, List.take_succ_cons], digs_take l⟩
  ·exact ⟨[], rfl, rfl⟩
theorem parts_of_scan (l : Bs) (h : scanN l = l.length) (h0 : l ≠ []) : ∃ neg ip fr mk sg pw, NumTxt l neg ip fr mk sg pw := by
 rw [scanN] at h; have hl0 := len_pos h0; split at h
 ·omega
 ·next hi =>
  have hml : mnS l <= l.length := by
   cases l with
   | nil => exact Nat.le_refl _
   | cons c l => rw [mnS]; split <;> simp
  have hil : ∀ l : Bs, intS l <= l.length := by
   intro l
   cases l with
   | nil => exact Nat.le_refl _
   | cons c l => rw [intS]; split; (· simp); (· exact digs_le _)
  have hdl := hil (l.drop (mnS l)); rw [<- List.drop_drop] at h; have e1 : l = l.take (mnS l) ++ l.drop (mnS l) := (List.take_append_drop _ _).symm
  have e2 : l.take (mnS l) = (if decide (mnS l = 1) then [45] else []) := by
   cases l with
   | nil => rfl
   | cons c l =>
    rw [mnS]; split
    ·next e => subst e; rfl
    ·rfl
  have hlen : (l.drop (mnS l)).length = l.length - mnS l := by simp
  generalize l.drop (mnS l) = a at *; have e3 : a = a.take (intS a) ++ a.drop (intS a) := (List.take_append_drop _ _).symm; have hlen2 : (a.drop (intS a)).length = a.length - intS a := by simp
  have d3 : (a.take (intS a)).all dg = true /\ (a.take (intS a) ≠ []) /\ ((a.take (intS a)).head? = some 48 -> (a.take (intS a)).length = 1) := by
   cases a with
   | nil => exact absurd rfl hi
   | cons c a =>
    rw [intS] at hi ⊢; split
    ·next e => subst e; exact ⟨rfl, by simp, fun _ => rfl⟩
    ·next e =>
     rw [if_neg e] at hi; refine ⟨digs_take _, fun e2 => ?_, fun e2 => ?_⟩
     ·have h1 := congrArg List.length e2
      have h2 := digs_le (c :: a); rw [List.length_take, Nat.min_eq_left h2] at h1; exact hi (by simpa using h1)
     ·have : ∃ k, digs (c :: a) = k + 1 := ⟨digs (c :: a) - 1, by omega⟩
      obtain ⟨k, hk⟩ := this; rw [hk, List.take_succ_cons] at e2; simp at e2
      exact absurd e2 e
  generalize a.take (intS a) = ip at *; generalize a.drop (intS a) = b at *; have hb : tailS b = b.length := by omega
  rw [tailS] at hb; have e4 : b = b.take (fracS b) ++ b.drop (fracS b) := (List.take_append_drop _ _).symm; obtain ⟨fr, hf, hfd⟩ := frac_whole b
  have hfl : fracS b <= b.length := by
   cases b with
   | nil => exact Nat.le_refl _
   | cons c b => rw [fracS]; have := digs_le b; split <;> simp; omega
  have hlen3 : (b.drop (fracS b)).length = b.length - fracS b := by simp
  obtain ⟨mk, sg, pw, h5, h6, h7⟩ := pow_whole (b.drop (fracS b)) (by omega); refine ⟨decide (mnS l = 1), ip, fr, mk, sg, pw, ⟨?_, d3.1, hfd, h6, d3.2.1, d3.2.2, h7⟩⟩; rw [<- h5, <- hf, <- e4, <- e3, <- e2]; exact e1
def valD (ip fr : Bs) : Bs := Lib.trimLeftB (ip ++ fr) 48
def valC (ip fr : Bs) : Bs := Lib.trimRightB (valD ip fr) 48
def valE (ip fr : Bs) (p : Int) : Int := p - fr.length + ((valD ip fr).length - (valC ip fr).length : Nat)
def numVal (neg : Bool) (ip fr : Bs) (p : Int) : (Bool × Bs × Int) × Int :=
 if valC ip fr = [] then ((false, [], 0), 0) else if numR neg ⟨(valC ip fr).toArray⟩ (valE ip fr p) then ((neg, valC ip fr, valE ip fr p), 0) else ((false, [], 0), 4)
def addP (n : Nat) (c : UInt8) : Nat := min (n * 10 + (c.toNat - 48)) 1099511627776
def sgn (sg : Bs) (n : Nat) : Int := if sg = [45] then -(n : Int) else n
def powP (sg pw : Bs) : Int := sgn sg (pw.foldl addP 0)
theorem trimR_le (l : Bs) : (Lib.trimRightB l 48).length <= l.length := by
 rw [Lib.trimRightB, List.length_reverse]; have := (List.dropWhile_sublist (fun x => x == (48 : UInt8)) (l := l.reverse)).length_le
 simpa using this
theorem trimL_le (l : Bs) : (Lib.trimLeftB l 48).length <= l.length := (List.dropWhile_sublist _).length_le
end Go.Proofs.YtbcdaaobbebooaaGreatDoor
namespace Go.Proofs.YtbcdaaobbebooaaGreatDoor
set_option maxRecDepth 100000
set_option maxHeartbeats 20000000
def isSc (c : Nat) : Bool := decide (c <= 1114111) && (decide (c < 55296) || decide (57343 < c))
def wid (c : Nat) : Nat := if c < 128 then 1 else if c < 2048 then 2 else if c < 65536 then 3 else 4
def putN (c : Nat) : List Nat :=
 if c < 128 then [c] else if c < 2048 then [192 + c / 64, 128 + c % 64] else if c < 65536 then [224 + c / 4096, 128 + c / 64 % 64, 128 + c % 64]
 else [240 + c / 262144, 128 + c / 4096 % 64, 128 + c / 64 % 64, 128 + c % 64]
def putU (c : Nat) : List UInt8 := (putN c).map UInt8.ofNat
theorem putU_length (c : Nat) : (putU c).length = wid c := by
 unfold putU putN wid; split
 ·rfl
 split
 ·rfl
 split <;> rfl
def sizeOf8 (b : Nat) : Nat := if b < 128 then 1 else if b < 192 then 0 else if b < 224 then 2 else if b < 240 then 3 else if b < 248 then 4 else 0
def oneN : List Nat -> Nat × Nat
 | [] => (0, 0)
 | a :: r =>
  if a < 128 then (a, 1)
  else if a < 192 then (0, 0)
  else if a < 224 then match r with
   | b :: _ => if b / 64 = 2 /\ 128 <= (a - 192) * 64 + (b - 128) then ((a - 192) * 64 + (b - 128), 2) else (0, 0)
   | _ => (0, 0)
  else if a < 240 then match r with
   | b :: c :: _ => if b / 64 = 2 /\ c / 64 = 2 /\ 2048 <= ((a - 224) * 64 + (b - 128)) * 64 + (c - 128) /\ isSc (((a - 224) * 64 + (b - 128)) * 64 + (c - 128)) then (((a - 224) * 64 + (b - 128)) * 64 + (c - 128), 3) else (0, 0)
   | _ => (0, 0)
  else if a < 248 then match r with
   | b :: c :: d :: _ => if b / 64 = 2 /\ c / 64 = 2 /\ d / 64 = 2 /\ 65536 <= (((a - 240) * 64 + (b - 128)) * 64 + (c - 128)) * 64 + (d - 128) /\ isSc ((((a - 240) * 64 + (b - 128)) * 64 + (c - 128)) * 64 + (d - 128)) then ((((a - 240) * 64 + (b - 128)) * 64 + (c - 128)) * 64 + (d - 128), 4) else (0, 0)
   | _ => (0, 0)
  else (0, 0)
theorem isSc_iff {c : Nat} : isSc c = true ↔ c <= 1114111 /\ (c < 55296 \/ 57343 < c) := by simp [isSc]
theorem oneN_put {c : Nat} (h : isSc c = true) (more : List Nat) : oneN (putN c ++ more) = (c, wid c) := by
 rw [isSc_iff] at h; unfold putN wid
 by_cases h1 : c < 128
 ·simp [h1, oneN]
 by_cases h2 : c < 2048
 ·rw [if_neg h1, if_pos h2, if_neg h1, if_pos h2]
  simp only [List.cons_append, List.nil_append, oneN]; rw [if_neg (by omega), if_neg (by omega), if_pos (by omega), if_pos (by omega)]; exact congrArg (fun x => (x, 2)) (by omega)
 by_cases h3 : c < 65536
 ·rw [if_neg h1, if_neg h2, if_pos h3, if_neg h1, if_neg h2, if_pos h3]
  simp only [List.cons_append, List.nil_append, oneN, isSc_iff]; rw [if_neg (by omega), if_neg (by omega), if_neg (by omega), if_pos (by omega), if_pos (by omega)]; exact congrArg (fun x => (x, 3)) (by omega)
 ·rw [if_neg h1, if_neg h2, if_neg h3, if_neg h1, if_neg h2, if_neg h3]
  simp only [List.cons_append, List.nil_append, oneN, isSc_iff]; rw [if_neg (by omega), if_neg (by omega), if_neg (by omega), if_neg (by omega), if_pos (by omega), if_pos (by omega)]; exact congrArg (fun x => (x, 4)) (by omega)
theorem put_oneN {l : List Nat} {c n : Nat} (hl : ∀ x ∈ l, x < 256) (h : oneN l = (c, n)) (hn : n ≠ 0) : isSc c = true /\ wid c = n /\ putN c = l.take n /\ n <= l.length := by
 match l with
 | [] => simp [oneN] at h; omega
 | a :: r =>
  have ha := hl a (by simp); simp only [oneN] at h
  by_cases h1 : a < 128
  ·rw [if_pos h1] at h
   simp only [Prod.mk.injEq] at h; obtain ⟨rfl, rfl⟩ := h; rw [isSc_iff]; simp [wid, putN, h1]; omega
  rw [if_neg h1] at h
  by_cases h2 : a < 192
  ·rw [if_pos h2] at h; simp at h; omega
  rw [if_neg h2] at h
  by_cases h3 : a < 224
  ·rw [if_pos h3] at h
   match r with
   | [] => simp at h; omega
   | b :: r' =>
    simp only at h
    by_cases hc : b / 64 = 2 /\ 128 <= (a - 192) * 64 + (b - 128)
    ·rw [if_pos hc] at h
     simp only [Prod.mk.injEq] at h; obtain ⟨h5, rfl⟩ := h; have hc2 : c < 2048 := by omega
     have hc1 : ¬ c < 128 := by omega
     rw [isSc_iff]; refine ⟨by omega, by simp [wid, hc1, hc2], ?_, by simp⟩; simp only [putN, if_neg hc1, if_pos hc2, List.take_succ_cons, List.take_zero, List.cons.injEq, and_true]; omega
    ·rw [if_neg hc] at h; simp at h; omega
  rw [if_neg h3] at h
  by_cases h4 : a < 240
  ·rw [if_pos h4] at h
   match r with
   | [] => simp at h; omega
   | [b] => simp at h; omega
   | b :: d :: r' =>
    simp only [isSc_iff] at h
    by_cases hc : b / 64 = 2 /\ d / 64 = 2 /\ 2048 <= ((a - 224) * 64 + (b - 128)) * 64 + (d - 128) /\ ((a - 224) * 64 + (b - 128)) * 64 + (d - 128) <= 1114111 /\ (((a - 224) * 64 + (b - 128)) * 64 + (d - 128) < 55296 \/ 57343 < ((a - 224) * 64 + (b - 128)) * 64 + (d - 128))
    ·rw [if_pos hc] at h
     simp only [Prod.mk.injEq] at h; obtain ⟨h5, rfl⟩ := h; have hc3 : c < 65536 := by omega
     have hc2 : ¬ c < 2048 := by omega
     have hc1 : ¬ c < 128 := by omega
     rw [isSc_iff]; refine ⟨by omega, by simp [wid, hc1, hc2, hc3], ?_, by simp⟩; simp only [putN, if_neg hc1, if_neg hc2, if_pos hc3, List.take_succ_cons, List.take_zero, List.cons.injEq, and_true]; omega
    ·rw [if_neg hc] at h; simp at h; omega
  rw [if_neg h4] at h
  by_cases h5 : a < 248
  ·rw [if_pos h5] at h
   match r with
   | [] => simp at h; omega
   | [b] => simp at h; omega
   | [b, d] => simp at h; omega
   | b :: d :: f :: r' =>
    simp only [isSc_iff] at h
    by_cases hc : b / 64 = 2 /\ d / 64 = 2 /\ f / 64 = 2 /\ 65536 <= (((a - 240) * 64 + (b - 128)) * 64 + (d - 128)) * 64 + (f - 128) /\ (((a - 240) * 64 + (b - 128)) * 64 + (d - 128)) * 64 + (f - 128) <= 1114111 /\ ((((a - 240) * 64 + (b - 128)) * 64 + (d - 128)) * 64 + (f - 128) < 55296 \/ 57343 < (((a - 240) * 64 + (b - 128)) * 64 + (d - 128)) * 64 + (f - 128))
    ·rw [if_pos hc] at h
     simp only [Prod.mk.injEq] at h; obtain ⟨h6, rfl⟩ := h; have hc3 : ¬ c < 65536 := by omega
     have hc2 : ¬ c < 2048 := by omega
     have hc1 : ¬ c < 128 := by omega
     rw [isSc_iff]; refine ⟨by omega, by simp [wid, hc1, hc2, hc3], ?_, by simp⟩; simp only [putN, if_neg hc1, if_neg hc2, if_neg hc3, List.take_succ_cons, List.take_zero, List.cons.injEq, and_true]; omega
    ·rw [if_neg hc] at h; simp at h; omega
  ·rw [if_neg h5] at h; simp at h; omega
theorem putN_len (c : Nat) : (putN c).length = wid c := by rw [<- putU_length]; simp [putU]
theorem wid_pos (c : Nat) : 1 <= wid c /\ wid c <= 4 := by
 unfold wid; split
 ·omega
 split
 ·omega
 split <;> omega
theorem oneN_le (l : List Nat) (hl : ∀ x ∈ l, x < 256) : (oneN l).2 <= l.length /\ (oneN l).2 <= 4 := by
 obtain ⟨c, n, h⟩ : ∃ c n, oneN l = (c, n) := ⟨_, _, rfl⟩; rw [h]
 by_cases hn : n = 0
 ·subst hn; simp
 ·obtain ⟨_, h2, _, h4⟩ := put_oneN hl h hn
  have := wid_pos c; exact ⟨h4, by simp only; omega⟩
def cont (c : Nat) : List Nat -> Option Nat
 | [] => some c
 | b :: r => if b / 64 = 2 then cont (c * 64 + b % 64) r else none
def initOf (a n : Nat) : Nat := if n = 2 then a % 32 else if n = 3 then a % 16 else a % 8
theorem oneN_many {a n : Nat} {r : List Nat} (hb : ∀ x ∈ a :: r, x < 256) (hn : sizeOf8 a = n) (h2 : 2 <= n) :
  oneN (a :: r) = if r.length < n - 1 then (0, 0) else match cont (initOf a n) (r.take (n - 1)) with
   | none => (0, 0)
   | some C => if isSc C = true /\ wid C = n then (C, n) else (0, 0) := by
 unfold sizeOf8 at hn
 by_cases h1 : a < 128
 ·rw [if_pos h1] at hn; omega
 rw [if_neg h1] at hn
 by_cases h3 : a < 192
 ·rw [if_pos h3] at hn; omega
 rw [if_neg h3] at hn
 have w2 : ∀ C, C < 2048 -> ((isSc C = true /\ wid C = 2) ↔ 128 <= C) := by
  intro C hC; rw [isSc_iff]; unfold wid
  by_cases h : C < 128
  ·simp [h]
  ·simp [h, hC]; omega
 have w3 : ∀ C, C < 65536 -> ((isSc C = true /\ wid C = 3) ↔ (2048 <= C /\ isSc C = true)) := by
  intro C hC; unfold wid
  by_cases h : C < 128
  ·simp [h]; omega
  ·by_cases h' : C < 2048
   ·simp [h, h']; omega
   ·simp [h, h', hC]; omega
 have w4 : ∀ C, ((isSc C = true /\ wid C = 4) ↔ (65536 <= C /\ isSc C = true)) := by
  intro C; unfold wid
  by_cases h : C < 128
  ·simp [h]; omega
  ·by_cases h' : C < 2048
   ·simp [h, h']; omega
   ·by_cases h'' : C < 65536
    ·simp [h, h', h'']; omega
    ·simp [h, h', h'']; omega
 by_cases h4 : a < 224
 ·rw [if_pos h4] at hn
  subst hn; simp only [oneN, if_neg h1, if_neg h3, if_pos h4]
  match r with
  | [] => simp
  | b :: r' =>
   have hb1 := hb b (by simp)
   by_cases hc : b / 64 = 2
   ·have e : initOf a 2 * 64 + b % 64 = (a - 192) * 64 + (b - 128) := by simp [initOf]; omega
    simp only [List.take_succ_cons, List.take_zero, cont, hc, if_true, true_and, e, List.length_cons]; rw [if_neg (show ¬ (r'.length + 1 < 2 - 1) by omega)]; simp only [w2 _ (show (a - 192) * 64 + (b - 128) < 2048 by omega)]
   ·simp [cont, hc]
 rw [if_neg h4] at hn
 by_cases h5 : a < 240
 ·rw [if_pos h5] at hn
  subst hn; simp only [oneN, if_neg h1, if_neg h3, if_neg h4, if_pos h5]
  match r with
  | [] => simp
  | [b] => simp
  | b :: d :: r' =>
   have hb1 := hb b (by simp); have hb2 := hb d (by simp)
   by_cases hc : b / 64 = 2
   ·by_cases hd : d / 64 = 2
    ·have e : (initOf a 3 * 64 + b % 64) * 64 + d % 64 = ((a - 224) * 64 + (b - 128)) * 64 + (d - 128) := by simp [initOf]; omega
     simp only [List.take_succ_cons, List.take_zero, cont, hc, hd, if_true, true_and, e, List.length_cons]; rw [if_neg (show ¬ (r'.length + 1 + 1 < 3 - 1) by omega)]; simp only [w3 _ (show ((a - 224) * 64 + (b - 128)) * 64 + (d - 128) < 65536 by omega)]
    ·simp [cont, hc, hd]
   ·simp [cont, hc]
 rw [if_neg h5] at hn
 by_cases h6 : a < 248
 ·rw [if_pos h6] at hn
  subst hn; simp only [oneN, if_neg h1, if_neg h3, if_neg h4, if_neg h5, if_pos h6]
  match r with
  | [] => simp
  | [b] => simp
  | [b, d] => simp
  | b :: d :: f :: r' =>
   have hb1 := hb b (by simp); have hb2 := hb d (by simp); have hb3 := hb f (by simp)
   by_cases hc : b / 64 = 2
   ·by_cases hd : d / 64 = 2
    ·by_cases hf : f / 64 = 2
     ·have e : ((initOf a 4 * 64 + b % 64) * 64 + d % 64) * 64 + f % 64 = (((a - 240) * 64 + (b - 128)) * 64 + (d - 128)) * 64 + (f - 128) := by simp [initOf]; omega
      simp only [List.take_succ_cons, List.take_zero, cont, hc, hd, hf, if_true, true_and, e, List.length_cons]; rw [if_neg (show ¬ (r'.length + 1 + 1 + 1 < 4 - 1) by omega)]; simp only [w4]
     ·simp [cont, hc, hd, hf]
    ·simp [cont, hc, hd]
   ·simp [cont, hc]
 ·rw [if_neg h6] at hn; omega
theorem sizeOf8_cases (a : Nat) : sizeOf8 a = 0 \/ sizeOf8 a = 1 \/ sizeOf8 a = 2 \/ sizeOf8 a = 3 \/ sizeOf8 a = 4 := by
 unfold sizeOf8; repeat' (first | omega | split)
theorem oneN_none {a : Nat} {r : List Nat} (h : sizeOf8 a = 0) : oneN (a :: r) = (0, 0) := by
 unfold sizeOf8 at h; simp only [oneN]
 by_cases h1 : a < 128
 ·rw [if_pos h1] at h; omega
 rw [if_neg h1] at h ⊢
 by_cases h2 : a < 192
 ·rw [if_pos h2]
 rw [if_neg h2] at h ⊢
 by_cases h3 : a < 224
 ·rw [if_pos h3] at h; omega
 rw [if_neg h3] at h ⊢
 by_cases h4 : a < 240
 ·rw [if_pos h4] at h; omega
 rw [if_neg h4] at h ⊢
 by_cases h5 : a < 248
 ·rw [if_pos h5] at h; omega
 rw [if_neg h5]
theorem sizeOf8_one {a : Nat} (h : sizeOf8 a = 1) : a < 128 := by
 unfold sizeOf8 at h
 by_cases h1 : a < 128
 ·exact h1
 rw [if_neg h1] at h; repeat' (first | omega | split at h)
def scanF : Nat -> List Nat -> Nat -> List (Nat × Nat) × Option Nat
 | 0, _, _ => ([], none)
 | k + 1, l, a => if l = [] then ([], none) else if (oneN l).2 = 0 then ([], some a) else
  ((a, (oneN l).1) :: (scanF k (l.drop (oneN l).2) (a + (oneN l).2)).1, (scanF k (l.drop (oneN l).2) (a + (oneN l).2)).2)
theorem scanF_same : ∀ (k j : Nat) (l : List Nat) (a : Nat), l.length <= k -> l.length <= j -> scanF k l a = scanF j l a
 | 0, 0, _, _, _, _ => rfl
 | 0, j + 1, l, a, h, _ => by
  have : l = [] := List.eq_nil_of_length_eq_zero (by omega); subst this; simp [scanF]
 | k + 1, 0, l, a, _, h => by
  have : l = [] := List.eq_nil_of_length_eq_zero (by omega); subst this; simp [scanF]
 | k + 1, j + 1, l, a, h1, h2 => by
  by_cases hl : l = []
  ·subst hl; simp [scanF]
  ·have hp := List.length_pos_iff.2 hl
   simp only [scanF, if_neg hl]
   by_cases he : (oneN l).2 = 0
   ·simp [he]
   ·rw [scanF_same k j _ _ (by simp; omega) (by simp; omega)]
def scan (l : List Nat) (a : Nat) : List (Nat × Nat) × Option Nat := scanF l.length l a
theorem scan_nil (a : Nat) : scan [] a = ([], none) := rfl
theorem scan_step {l : List Nat} (hl : l ≠ []) (a : Nat) : scan l a = if (oneN l).2 = 0 then ([], some a) else
  ((a, (oneN l).1) :: (scan (l.drop (oneN l).2) (a + (oneN l).2)).1, (scan (l.drop (oneN l).2) (a + (oneN l).2)).2) := by
 unfold scan; obtain ⟨k, hk⟩ : ∃ k, l.length = k + 1 := ⟨l.length - 1, by have := List.length_pos_iff.2 hl; omega⟩; rw [hk]; simp only [scanF, if_neg hl]
 by_cases he : (oneN l).2 = 0
 ·simp [he]
 ·rw [scanF_same k (l.drop (oneN l).2).length _ _ (by simp; omega) (Nat.le_refl _)]
theorem scan_bad {l : List Nat} (hl : l ≠ []) {a : Nat} (h : (oneN l).2 = 0) : scan l a = ([], some a) := by rw [scan_step hl, if_pos h]
theorem scan_good {l : List Nat} (hl : l ≠ []) {a c n : Nat} (h : oneN l = (c, n)) (hn : n ≠ 0) : scan l a = ((a, c) :: (scan (l.drop n) (a + n)).1, (scan (l.drop n) (a + n)).2) := by
 rw [scan_step hl, h, if_neg hn]
theorem scan_len : ∀ (k : Nat) (l : List Nat) (a : Nat), l.length <= k -> (scan l a).1.length <= l.length
 | k, l, a, hk => by
  by_cases h0 : l = []
  ·subst h0; simp [scan_nil]
  by_cases hn : (oneN l).2 = 0
  ·rw [scan_bad h0 hn]; simp
  ·have hp := List.length_pos_iff.2 h0
   cases k with
   | zero => omega
   | succ k =>
    have ih := scan_len k (l.drop (oneN l).2) (a + (oneN l).2) (by simp; omega); rw [scan_step h0, if_neg hn]; simp at ih ⊢; omega
end Go.Proofs.YtbcdaaobbebooaaGreatDoor
namespace Go.Proofs.YtbcdaaobbebooaaGreatDoor
set_option maxRecDepth 100000
set_option maxHeartbeats 20000000
def hexV (c : Nat) : Option Nat := if 48 <= c /\ c <= 57 then some (c - 48) else if 97 <= c /\ c <= 102 then some (c - 87) else if 65 <= c /\ c <= 70 then some (c - 55) else none
def unitF : Nat -> Nat -> List Nat -> Nat × Nat
 | 0, n, _ => (n, 0)
 | _ + 1, _, [] => (0, 2)
 | k + 1, n, c :: r => match hexV c with
  | none => (0, 3)
  | some d => unitF k (n * 16 + d) r
def unitQ (l : List Nat) : Nat × Nat := unitF 4 0 l
abbrev PartR := List Nat × Nat × Nat
def errR (e : Nat) : PartR := ([], 0, e)
def lowQ (n : Nat) : List Nat -> PartR
 | [] => errR 2
 | c :: t => if c ≠ 92 then errR 3 else match t with
  | [] => errR 2
  | d :: u => if d ≠ 117 then errR 3 else if (unitQ u).2 ≠ 0 then errR (unitQ u).2 else
   if (unitQ u).1 < 56320 \/ 57343 < (unitQ u).1 then errR 3 else (putN (65536 + (n - 55296) * 1024 + ((unitQ u).1 - 56320)), 12, 0)
def codedQ (r : List Nat) : PartR :=
 if (unitQ r).2 ≠ 0 then errR (unitQ r).2 else
 if 56320 <= (unitQ r).1 /\ (unitQ r).1 <= 57343 then errR 3 else
 if (unitQ r).1 < 55296 \/ 57343 < (unitQ r).1 then (putN (unitQ r).1, 6, 0) else lowQ (unitQ r).1 (r.drop 4)
def escB (c : Nat) : Option Nat :=
 if c = 34 \/ c = 92 \/ c = 47 then some c else if c = 98 then some 8 else if c = 102 then some 12 else if c = 110 then some 10 else if c = 114 then some 13 else if c = 116 then some 9 else none
def escQ : List Nat -> PartR
 | [] => errR 2
 | c :: r => match escB c with
  | some b => ([b], 2, 0)
  | none => if c = 117 then codedQ r else errR 3
def partQ : List Nat -> PartR
 | [] => errR 2
 | c :: r => if c < 32 then errR 3 else if c = 92 then escQ r else if (oneN (c :: r)).2 = 0 then errR 7 else ((c :: r).take (oneN (c :: r)).2, (oneN (c :: r)).2, 0)
theorem unitF_val : ∀ (k n : Nat) (l : List Nat), (unitF k n l).2 = 0 -> k <= l.length /\ (unitF k n l).1 < (n + 1) * 16 ^ k
 | 0, n, l, _ => by simp [unitF]
 | k + 1, n, [], h => by simp [unitF] at h
 | k + 1, n, c :: r, h => by
  simp only [unitF] at h ⊢
  cases hc : hexV c with
  | none => rw [hc] at h; simp at h
  | some d =>
   rw [hc] at h; simp only at h
   have hd : d < 16 := by
    unfold hexV at hc; split at hc
    ·cases hc; omega
    split at hc
    ·cases hc; omega
    split at hc
    ·cases hc; omega
    ·cases hc
   obtain ⟨h1, h2⟩ := unitF_val k _ r h; refine ⟨by simp; omega, Nat.lt_of_lt_of_le h2 ?_⟩; have : n * 16 + d + 1 <= (n + 1) * 16 := by omega
   calc (n * 16 + d + 1) * 16 ^ k <= ((n + 1) * 16) * 16 ^ k := Nat.mul_le_mul_right _ this
    _ = (n + 1) * 16 ^ (k + 1) := by rw [Nat.pow_succ]; ac_rfl
theorem unitQ_val {l : List Nat} (h : (unitQ l).2 = 0) : 4 <= l.length /\ (unitQ l).1 < 65536 := by
 have := unitF_val 4 0 l h; exact ⟨this.1, by have := this.2; simpa [unitQ] using this⟩
theorem lowQ_ok {n : Nat} {l : List Nat} (hn : 55296 <= n /\ n <= 56319) (h : (lowQ n l).2.2 = 0) : ∃ c, isSc c = true /\ (lowQ n l).1 = putN c /\ (lowQ n l).2.1 = 12 /\ 6 <= l.length := by
 unfold lowQ at h ⊢
 match l with
 | [] => simp [errR] at h
 | [c] => by_cases hc : c = 92 <;> simp [errR, hc] at h
 | c :: d :: u =>
  simp only at h ⊢
  by_cases hc : c = 92
  ·by_cases hd : d = 117
   ·rw [if_neg (by simp [hc]), if_neg (by simp [hd])] at h ⊢
    by_cases hu : (unitQ u).2 = 0
    ·rw [if_neg (by simp [hu])] at h ⊢
     by_cases hr : (unitQ u).1 < 56320 \/ 57343 < (unitQ u).1
     ·rw [if_pos hr] at h; simp [errR] at h
     ·rw [if_neg hr]
      obtain ⟨v1, v2⟩ := unitQ_val hu; obtain ⟨x, hx⟩ : ∃ x, x = 65536 + (n - 55296) * 1024 + ((unitQ u).1 - 56320) := ⟨_, rfl⟩; rw [<- hx]; have hs : isSc x = true := by rw [isSc_iff]; omega
      exact ⟨x, hs, rfl, rfl, by simp only [List.length_cons]; omega⟩
    ·rw [if_pos (by simpa using hu)] at h; exact absurd h hu
   ·rw [if_neg (by simp [hc]), if_pos (by simpa using hd)] at h; simp [errR] at h
  ·rw [if_pos (by simpa using hc)] at h; simp [errR] at h
theorem codedQ_ok {r : List Nat} (h : (codedQ r).2.2 = 0) : ∃ c, isSc c = true /\ (codedQ r).1 = putN c /\ 1 <= (codedQ r).2.1 /\ (codedQ r).2.1 <= r.length + 2 := by
 unfold codedQ at h ⊢
 by_cases hu : (unitQ r).2 = 0
 ·rw [if_neg (by simp [hu])] at h ⊢
  have hv := unitQ_val hu
  by_cases h1 : 56320 <= (unitQ r).1 /\ (unitQ r).1 <= 57343
  ·rw [if_pos h1] at h; simp [errR] at h
  ·rw [if_neg h1] at h ⊢
   by_cases h2 : (unitQ r).1 < 55296 \/ 57343 < (unitQ r).1
   ·rw [if_pos h2]
    exact ⟨_, by rw [isSc_iff]; omega, rfl, by simp, by simp; omega⟩
   ·rw [if_neg h2] at h ⊢
    obtain ⟨c, q1, q2, q3, q4⟩ := lowQ_ok (by omega) h; simp at q4
    exact ⟨c, q1, q2, by omega, by omega⟩
 ·rw [if_pos (by simpa using hu)] at h; exact absurd h hu
theorem partQ_ok {l : List Nat} (hl : ∀ x ∈ l, x < 256) (h : (partQ l).2.2 = 0) : ∃ c, isSc c = true /\ (partQ l).1 = putN c /\ 1 <= (partQ l).2.1 /\ (partQ l).2.1 <= l.length := by
 match l with
 | [] => simp [partQ, errR] at h
 | c :: r =>
  simp only [partQ] at h ⊢
  by_cases h1 : c < 32
  ·rw [if_pos h1] at h; simp [errR] at h
  rw [if_neg h1] at h ⊢
  by_cases h2 : c = 92
  ·rw [if_pos h2] at h ⊢
   match r with
   | [] => simp [escQ, errR] at h
   | d :: t =>
    simp only [escQ] at h ⊢
    cases hd : escB d with
    | some b =>
     have hb : b < 128 := by
      unfold escB at hd; repeat' (split at hd)
      all_goals first | (cases hd; omega) | cases hd
     exact ⟨b, by rw [isSc_iff]; omega, by simp [putN, hb], by simp, by simp⟩
    | none =>
     rw [hd] at h; simp only at h ⊢
     by_cases h3 : d = 117
     ·rw [if_pos h3] at h ⊢
      obtain ⟨c, q1, q2, q3, q4⟩ := codedQ_ok h; exact ⟨c, q1, q2, q3, by simp; omega⟩
     ·rw [if_neg h3] at h; simp [errR] at h
  ·rw [if_neg h2] at h ⊢
   by_cases h3 : (oneN (c :: r)).2 = 0
   ·rw [if_pos h3] at h; simp [errR] at h
   ·rw [if_neg h3]
    obtain ⟨q1, q2, q3, q4⟩ := put_oneN hl rfl h3; exact ⟨_, q1, q3.symm, by simp only; omega, q4⟩
def bodyF : Nat -> List Nat -> PartR
 | 0, _ => errR 2
 | k + 1, l => if l.head? = some 34 then ([], 1, 0) else if (partQ l).2.2 ≠ 0 then errR (partQ l).2.2 else
  if (bodyF k (l.drop (partQ l).2.1)).2.2 ≠ 0 then errR (bodyF k (l.drop (partQ l).2.1)).2.2 else
  ((partQ l).1 ++ (bodyF k (l.drop (partQ l).2.1)).1, (partQ l).2.1 + (bodyF k (l.drop (partQ l).2.1)).2.1, 0)
def bodyQ (l : List Nat) : PartR := bodyF (l.length + 1) l
def Byt (l : List Nat) : Prop := ∀ x ∈ l, x < 256
theorem Byt.drop {l : List Nat} (h : Byt l) (k : Nat) : Byt (l.drop k) := fun x hx => h x (List.mem_of_mem_drop hx)
theorem bodyF_same : ∀ (k j : Nat) (l : List Nat), Byt l -> l.length < k -> l.length < j -> bodyF k l = bodyF j l
 | 0, _, _, _, h, _ => by omega
 | _ + 1, 0, _, _, _, h => by omega
 | k + 1, j + 1, l, hl, h1, h2 => by
  simp only [bodyF]; split
  ·rfl
  by_cases h3 : (partQ l).2.2 = 0
  ·obtain ⟨_, _, _, q3, q4⟩ := partQ_ok hl h3
   rw [bodyF_same k j _ (hl.drop _) (by simp; omega) (by simp; omega)]
  ·rw [if_pos (by simpa using h3), if_pos (by simpa using h3)]
theorem bodyQ_step {l : List Nat} (hl : Byt l) : bodyQ l = if l.head? = some 34 then ([], 1, 0) else if (partQ l).2.2 ≠ 0 then errR (partQ l).2.2 else
  if (bodyQ (l.drop (partQ l).2.1)).2.2 ≠ 0 then errR (bodyQ (l.drop (partQ l).2.1)).2.2 else
  ((partQ l).1 ++ (bodyQ (l.drop (partQ l).2.1)).1, (partQ l).2.1 + (bodyQ (l.drop (partQ l).2.1)).2.1, 0) := by
 unfold bodyQ; rw [bodyF]; split
 ·rfl
 by_cases h3 : (partQ l).2.2 = 0
 ·obtain ⟨_, _, _, q3, q4⟩ := partQ_ok hl h3
  rw [bodyF_same l.length ((l.drop (partQ l).2.1).length + 1) _ (hl.drop _) (by simp; omega) (by simp)]
 ·rw [if_pos (by simpa using h3), if_pos (by simpa using h3)]
def joinR (pre : List Nat) (k : Nat) (q : PartR) : PartR := if q.2.2 ≠ 0 then errR q.2.2 else (pre ++ q.1, k + q.2.1, 0)
def scanQ : List Nat -> PartR
 | [] => errR 2
 | c :: r => if c ≠ 34 then errR 3 else joinR [] 1 (bodyQ r)
theorem joinR_err {pre : List Nat} {k e : Nat} : joinR pre k (errR e) = if e ≠ 0 then errR e else (pre, k, 0) := by simp [joinR, errR]
theorem joinR_end {l : List Nat} (hl : Byt l) {pre : List Nat} {k : Nat} (h : l.head? = some 34) : joinR pre k (bodyQ l) = (pre, k + 1, 0) := by
 rw [bodyQ_step hl, if_pos h]; simp [joinR]
theorem joinR_bad {l : List Nat} (hl : Byt l) {pre : List Nat} {k : Nat} (h : l.head? ≠ some 34) (he : (partQ l).2.2 ≠ 0) : joinR pre k (bodyQ l) = errR (partQ l).2.2 := by
 rw [bodyQ_step hl, if_neg h, if_pos he, joinR_err, if_pos he]
theorem joinR_good {l : List Nat} (hl : Byt l) {pre : List Nat} {k : Nat} (h : l.head? ≠ some 34) (he : (partQ l).2.2 = 0) :
  joinR pre k (bodyQ l) = joinR (pre ++ (partQ l).1) (k + (partQ l).2.1) (bodyQ (l.drop (partQ l).2.1)) := by
 rw [bodyQ_step hl, if_neg h, if_neg (by simp [he])]
 by_cases h2 : (bodyQ (l.drop (partQ l).2.1)).2.2 = 0
 ·rw [if_neg (by simp [h2])]; simp [joinR, h2, Nat.add_assoc]
 ·rw [if_pos h2, joinR_err, if_pos h2]; simp [joinR, h2]
end Go.Proofs.YtbcdaaobbebooaaGreatDoor
namespace Go.Proofs.YtbcdaaobbebooaaGreatDoor
set_option maxRecDepth 100000
set_option maxHeartbeats 20000000
def npc (l : Bs) : Bool × Bs × Bs × Bs × Bs × Bs :=
 let a := l.drop (mnS l)
 let b := a.drop (intS a)
 let c := b.drop (fracS b)
 (decide (mnS l = 1), a.take (intS a), (b.take (fracS b)).drop 1, c.take 1, (c.drop 1).take (sgS (c.drop 1)), (c.drop 1).drop (sgS (c.drop 1)))
def decR (l : Bs) : (Bool × Bs × Int) × Int :=
 if scanN l = l.length /\ l ≠ [] then numVal (npc l).1 (npc l).2.1 (npc l).2.2.1 (powP (npc l).2.2.2.2.1 (npc l).2.2.2.2.2) else ((false, [], 0), 3)
def decE (l : Bs) : Int := (decR l).2
section
variable {l : Bs} {neg : Bool} {ip fr mk sg pw : Bs}
theorem NumTxt.sgEq (h : NumTxt l neg ip fr mk sg pw) (hp : pw ≠ []) : sgS (sg ++ pw) = sg.length := by
 rcases h.exp with ⟨rfl, rfl, rfl⟩ | ⟨hm, hs, -⟩
 ·exact absurd rfl hp
 ·rcases hs with rfl | rfl | rfl
  ·cases pw with
   | nil => exact absurd rfl hp
   | cons c p =>
    have hc := all_head h.dpw (c := c) rfl; rw [List.nil_append, sgS, if_neg]
    ·rfl
    ·intro e
     rcases e with rfl | rfl <;> revert hc <;> decide
  ·rfl
  ·rfl
theorem NumTxt.frac (h : NumTxt l neg ip fr mk sg pw) : fracS ((if fr = [] then [] else 46 :: fr) ++ (mk ++ (sg ++ pw))) = (if fr = [] then ([] : Bs) else 46 :: fr).length := by
 have hh := fun c => h.pow_head (c := c); generalize mk ++ (sg ++ pw) = r at hh ⊢
 by_cases hf : fr = []
 ·rw [if_pos hf, List.nil_append]
  cases r with
  | nil => rfl
  | cons c r => rw [fracS, if_neg]; (· rfl); intro e; exact (hh c rfl).2 e.1
 ·rw [if_neg hf, List.cons_append]
  have hd : digs (fr ++ r) = fr.length := by rw [digs_app _ _ h.dfr, digs_none r (fun c hc => (hh c hc).1)]; rfl
  rw [fracS, hd, if_pos ⟨rfl, len_pos hf⟩, List.length_cons]; omega
theorem NumTxt.npc (h : NumTxt l neg ip fr mk sg pw) : npc l = (neg, ip, fr, mk, sg, pw) := by
 have hm := h.mn; have hi := h.int; have hf := h.frac; have hs := h.sgEq; have he := h.exp; unfold Go.Proofs.YtbcdaaobbebooaaGreatDoor.npc; simp only; rw [hm.2, hi, List.drop_left, List.take_left, hf, List.drop_left, List.take_left, hm.1]; have h1 : decide ((if neg = true then 1 else 0 : Nat) = 1) = neg := by cases neg <;> rfl
 have h2 : (if fr = [] then ([] : Bs) else 46 :: fr).drop 1 = fr := by
  by_cases hfr : fr = []
  ·rw [if_pos hfr, hfr]; rfl
  ·rw [if_neg hfr]; rfl
 rw [h1, h2]; rcases he with ⟨rfl, rfl, rfl⟩ | ⟨hmk, -, hp⟩
 ·rfl
 ·have hmk1 : mk.length = 1 := by rcases hmk with rfl | rfl <;> rfl
  have e1 : (mk ++ (sg ++ pw)).take 1 = mk := by rw [<- hmk1, List.take_left]
  have e2 : (mk ++ (sg ++ pw)).drop 1 = sg ++ pw := by rw [<- hmk1, List.drop_left]
  rw [e1, e2, hs hp, List.take_left, List.drop_left]
theorem NumTxt.decR (h : NumTxt l neg ip fr mk sg pw) : decR l = numVal neg ip fr (powP sg pw) := by
 unfold Go.Proofs.YtbcdaaobbebooaaGreatDoor.decR; rw [if_pos h.scan, h.npc]
end
inductive LR where
 | tok (kind size : Nat) : LR
 | bad (off : Nat) (err : Int) : LR
def nb (l : Bs) : List Nat := l.map UInt8.toNat
theorem nb_byt (l : Bs) : Byt (nb l) := by
 intro x hx; obtain ⟨c, _, rfl⟩ := List.mem_map.1 hx; exact c.toNat_lt
theorem nb_len (l : Bs) : (nb l).length = l.length := List.length_map ..
def blanksB : Bs := [32, 9, 13]
def blankB (c : UInt8) : Bool := blanksB.contains c
def letB (c : UInt8) : Bool := decide (65 <= c.toNat /\ c.toNat <= 90) || (decide (97 <= c.toNat /\ c.toNat <= 122) || decide (c.toNat = 95))
def idB (c : UInt8) : Bool := letB c || dg c
def idN : Bs -> Nat
 | [] => 0
 | c :: l => if idB c then idN l + 1 else 0
def lineN : Bs -> Nat
 | [] => 0
 | c :: l => if c = 10 then 0 else lineN l + 1
def wth (l : Bs) : Option (Nat × Int) :=
 match (scan (nb l) 0).1.find? (fun x => decide (x.2 < 32) && x.2 != 9) with
 | some x => some (x.1, 3)
 | none => match (scan (nb l) 0).2 with
  | some a => some (a, 7)
  | none => none
def remT (l : Bs) (kind : Nat) : LR := match wth l with
 | some x => .bad x.1 x.2
 | none => .tok kind l.length
def remS (l : Bs) : Bs := Lib.trimRightS (l.take (lineN l)) blanksB
def endN : Bs -> Option Nat
 | [] => none
 | c :: l => if c = 42 /\ l.head? = some 47 then some 0 else (endN l).map (· + 1)
def aside1 (l : Bs) : LR := match endN (l.drop 2) with
 | none => .bad 0 2
 | some n => if (l.take (n + 2)).contains 10 then .bad 0 2 else remT (l.take (n + 4)) 7
def dbls : List Bs := [[61, 61], [33, 61], [60, 61], [62, 61], [38, 38], [124, 124]]
def sgls : Bs := [61, 60, 62, 43, 45, 42, 47, 37, 33, 63, 58, 44, 46, 40, 41, 91, 93, 123, 125]
def sgN (l : Bs) : Nat := if dbls.any (fun d => d.isPrefixOf l) then 2 else match l with
 | [] => 0
 | c :: _ => if sgls.contains c then 1 else 0
def num1 (l : Bs) : LR := if decE (l.take (scanN l)) = 0 then .tok 2 (scanN l) else .bad 0 (decE (l.take (scanN l)))
def quo1 (l : Bs) : LR := if (scanQ (nb l)).2.2 = 0 then .tok 3 (scanQ (nb l)).2.1 else .bad 0 ((scanQ (nb l)).2.2 : Nat)
def one1 : Bs -> LR
 | [] => .bad 0 3
 | c :: r =>
  if letB c then .tok 1 (1 + idN r)
  else if dg c then num1 (c :: r)
  else if c = 34 then quo1 (c :: r)
  else if c = 10 then .tok 5 1
  else if c = 35 \/ (c = 47 /\ r.head? = some 47) then remT (remS (c :: r)) 6
  else if c = 47 /\ r.head? = some 42 then aside1 (c :: r)
  else if sgN (c :: r) = 0 then .bad 0 3 else .tok 4 (sgN (c :: r))
theorem idN_le : ∀ l : Bs, idN l <= l.length
 | [] => Nat.le_refl _
 | c :: l => by have := idN_le l; simp only [idN, List.length_cons]; split <;> omega
theorem lineN_le : ∀ l : Bs, lineN l <= l.length
 | [] => Nat.le_refl _
 | c :: l => by have := lineN_le l; simp only [lineN, List.length_cons]; split <;> omega
theorem endN_le : ∀ (l : Bs) (n : Nat), endN l = some n -> n + 2 <= l.length
 | [], n, h => by simp [endN] at h
 | c :: l, n, h => by
  rw [endN] at h; split at h
  ·next hc =>
   cases h
   cases l with
   | nil => simp at hc
   | cons d l => simp
  ·obtain ⟨m, hm, rfl⟩ := Option.map_eq_some_iff.1 h
   have := endN_le l m hm; simp only [List.length_cons]; omega
theorem scanN_le (l : Bs) : scanN l <= l.length := by
 have hi : ∀ l : Bs, intS l <= l.length := by
  intro l
  cases l with
  | nil => exact Nat.le_refl _
  | cons c l => rw [intS]; split; (· simp); (· exact digs_le _)
 have hf : ∀ l : Bs, fracS l <= l.length := by
  intro l
  cases l with
  | nil => exact Nat.le_refl _
  | cons c l => rw [fracS]; have := digs_le l; split <;> simp; omega
 have hs : ∀ l : Bs, sgS l <= l.length := by
  intro l
  cases l with
  | nil => exact Nat.le_refl _
  | cons c l => rw [sgS]; split <;> simp
 have hp : ∀ l : Bs, powS l <= l.length := by
  intro l
  cases l with
  | nil => exact Nat.le_refl _
  | cons c l =>
   rw [powS]; have h1 := digs_le (l.drop (sgS l)); have h2 := hs l; rw [List.length_drop] at h1; split
   ·simp only [List.length_cons]; omega
   ·exact Nat.zero_le _
 have hm : mnS l <= l.length := by
  cases l with
  | nil => exact Nat.le_refl _
  | cons c l => rw [mnS]; split <;> simp
 rw [scanN]; split
 ·exact Nat.zero_le _
 ·have h1 := hi (l.drop (mnS l))
  have h2 := hf (l.drop (mnS l + intS (l.drop (mnS l)))); have h3 := hp ((l.drop (mnS l + intS (l.drop (mnS l)))).drop (fracS (l.drop (mnS l + intS (l.drop (mnS l)))))); rw [tailS]; simp only [List.length_drop] at h1 h2 h3; omega
theorem scanN_pos {c : UInt8} {r : Bs} (h : dg c = true) : 1 <= scanN (c :: r) := by
 have hm : mnS (c :: r) = 0 := by
  rw [mnS, if_neg]; rintro rfl
  revert h; decide
 have hi : intS (c :: r) ≠ 0 := by
  rw [intS]; split
  ·decide
  ·rw [digs, if_pos h]; omega
 rw [scanN, hm, List.drop_zero, if_neg hi]; omega
theorem bodyF_size : ∀ (k : Nat) (l : List Nat), Byt l -> (bodyF k l).2.2 = 0 -> 1 <= (bodyF k l).2.1 /\ (bodyF k l).2.1 <= l.length
 | 0, l, _, h => by simp [bodyF, errR] at h
 | k + 1, l, hl, h => by
  rw [bodyF] at h ⊢; split at h
  ·next hq =>
   rw [if_pos hq]
   cases l with
   | nil => simp at hq
   | cons c l => simp
  ·next hq =>
   rw [if_neg hq]; split at h
   ·next hp => exact absurd h hp
   ·next hp =>
    rw [if_neg hp]; have hp0 : (partQ l).2.2 = 0 := by simpa using hp
    obtain ⟨c, -, -, h3, h4⟩ := partQ_ok hl hp0; split at h
    ·next hr => exact absurd h hr
    ·next hr =>
     rw [if_neg hr]; have := bodyF_size k (l.drop (partQ l).2.1) (hl.drop _) (by simpa using hr); simp only [List.length_drop] at this; simp only; omega
theorem scanQ_size {l : List Nat} (hl : Byt l) (h : (scanQ l).2.2 = 0) : 2 <= (scanQ l).2.1 /\ (scanQ l).2.1 <= l.length := by
 cases l with
 | nil => simp [scanQ, errR] at h
 | cons c r =>
  rw [scanQ] at h ⊢; split at h
  ·simp [errR] at h
  ·next hc =>
   rw [if_neg hc]; unfold joinR at h ⊢; split at h
   ·next he => exact absurd h he
   ·next he =>
    rw [if_neg he]; have := bodyF_size _ r (hl.drop 1) (by simpa [bodyQ] using he); simp only [bodyQ, List.length_cons]; omega
theorem remS_len (l : Bs) : (remS l).length <= l.length := by
 unfold remS Lib.trimRightS; rw [List.length_reverse]; refine Nat.le_trans (List.dropWhile_sublist _).length_le ?_; rw [List.length_reverse, List.length_take]; omega
theorem remS_pos {c : UInt8} {r : Bs} (h1 : c ≠ 10) (h2 : blankB c = false) : 1 <= (remS (c :: r)).length := by
 unfold remS Lib.trimRightS; rw [List.length_reverse, lineN, if_neg h1, List.take_succ_cons, List.reverse_cons]; generalize (r.take (lineN r)).reverse = q
 induction q with
 | nil =>
  rw [List.nil_append, List.dropWhile_cons_of_neg (by rw [show blanksB.contains c = false from h2]; simp)]; simp
 | cons a q ih =>
  rw [List.cons_append, List.dropWhile_cons]; split
  ·exact ih
  ·simp
theorem sgN_le (l : Bs) : sgN l <= l.length := by
 unfold sgN; split
 ·next h =>
  obtain ⟨d, hd, hp⟩ := List.any_eq_true.1 h
  have h2 : d.length = 2 := by
   simp only [dbls, List.mem_cons, List.not_mem_nil, or_false] at hd; rcases hd with rfl | rfl | rfl | rfl | rfl | rfl <;> rfl
  have := (List.isPrefixOf_iff_prefix.1 hp).length_le; omega
 ·split
  ·exact Nat.zero_le _
  ·split
   ·simp
   ·exact Nat.zero_le _
theorem one1_size {l : Bs} {k n : Nat} (h : one1 l = .tok k n) : 1 <= n /\ n <= l.length := by
 cases l with
 | nil => cases h
 | cons c r =>
  rw [one1] at h; split at h
  ·cases h
   have := idN_le r; simp only [List.length_cons]; omega
  split at h
  ·next hd =>
   unfold num1 at h; split at h
   ·cases h; exact ⟨scanN_pos hd, scanN_le _⟩
   ·cases h
  split at h
  ·unfold quo1 at h
   split at h
   ·next hq =>
    cases h
    have := scanQ_size (nb_byt (c :: r)) hq; rw [nb_len] at this; omega
   ·cases h
  split at h
  ·cases h; simp
  split at h
  ·next h10 hr =>
   unfold remT at h; split at h
   ·cases h
   ·cases h
    refine ⟨remS_pos h10 ?_, remS_len _⟩; rcases hr with rfl | ⟨rfl, -⟩ <;> rfl
  split at h
  ·unfold aside1 at h
   split at h
   ·cases h
   ·next n hn =>
    have := endN_le _ _ hn; split at h
    ·cases h
    ·unfold remT at h
     split at h
     ·cases h
     ·cases h
      simp only [List.length_take, List.length_drop, List.length_cons] at this ⊢; omega
  split at h
  ·cases h
  ·cases h
   exact ⟨by omega, sgN_le _⟩
structure Tok where
 kind : Int
 text : ByteArray
 pos : Int
def lexF : Nat -> Bs -> Nat -> List Tok × Int × Int
 | 0, _, _ => ([], -1, 0)
 | _ + 1, [], _ => ([], -1, 0)
 | n + 1, c :: r, p => if blankB c then lexF n r (p + 1) else match one1 (c :: r) with
  | .bad off e => ([], ((p + off : Nat) : Int), e)
  | .tok k sz => (⟨(k : Nat), strL ((c :: r).take sz), (p : Nat)⟩ :: (lexF n ((c :: r).drop sz) (p + sz)).1, (lexF n ((c :: r).drop sz) (p + sz)).2)
theorem lexF_same : ∀ (n m : Nat) (l : Bs) (p : Nat), l.length <= n -> l.length <= m -> lexF n l p = lexF m l p
 | 0, m, l, p, h, _ => by
  obtain rfl := List.eq_nil_of_length_eq_zero (Nat.le_zero.1 h); cases m <;> rfl
 | n + 1, 0, l, p, _, h => by
  obtain rfl := List.eq_nil_of_length_eq_zero (Nat.le_zero.1 h); rfl
 | n + 1, m + 1, [], p, _, _ => rfl
 | n + 1, m + 1, c :: r, p, hn, hm => by
  simp only [List.length_cons] at hn hm; rw [lexF, lexF]; split
  ·exact lexF_same n m r _ (by omega) (by omega)
  ·cases ho : one1 (c :: r) with
   | bad off e => rfl
   | tok k sz =>
    have hs := one1_size ho; simp only; rw [lexF_same n m _ _ (by rw [List.length_drop, List.length_cons]; omega) (by rw [List.length_drop, List.length_cons]; omega)]
def lexL (l : Bs) (p : Nat) : List Tok × Int × Int := lexF l.length l p
theorem lexL_nil (p : Nat) : lexL [] p = ([], -1, 0) := rfl
theorem lexL_blank {c : UInt8} {r : Bs} (h : blankB c = true) (p : Nat) : lexL (c :: r) p = lexL r (p + 1) := by
 unfold lexL; rw [List.length_cons, lexF, if_pos h]
theorem lexL_bad {c : UInt8} {r : Bs} (h : blankB c = false) {off : Nat} {e : Int} (ho : one1 (c :: r) = .bad off e) (p : Nat) : lexL (c :: r) p = ([], ((p + off : Nat) : Int), e) := by
 unfold lexL; rw [List.length_cons, lexF, if_neg (by rw [h]; simp), ho]
theorem lexL_tok {c : UInt8} {r : Bs} (h : blankB c = false) {k sz : Nat} (ho : one1 (c :: r) = .tok k sz) (p : Nat) :
  lexL (c :: r) p = (⟨(k : Nat), strL ((c :: r).take sz), (p : Nat)⟩ :: (lexL ((c :: r).drop sz) (p + sz)).1, (lexL ((c :: r).drop sz) (p + sz)).2) := by
 have hs := one1_size ho; unfold lexL; rw [List.length_cons, lexF, if_neg (by rw [h]; simp), ho]; simp only; rw [lexF_same r.length ((c :: r).drop sz).length _ _ (by rw [List.length_drop, List.length_cons]; omega) (Nat.le_refl _)]
theorem lexL_len : ∀ (k : Nat) (l : Bs) (p : Nat), l.length <= k -> (lexL l p).1.length <= l.length
 | 0, l, p, h => by
  obtain rfl := List.eq_nil_of_length_eq_zero (Nat.le_zero.1 h); exact Nat.le_refl _
 | k + 1, [], p, _ => Nat.le_refl _
 | k + 1, c :: r, p, h => by
  simp only [List.length_cons] at h
  by_cases hb : blankB c = true
  ·rw [lexL_blank hb]
   have := lexL_len k r (p + 1) (by omega); simp only [List.length_cons]; omega
  ·have hb' : blankB c = false := by simpa using hb
   cases ho : one1 (c :: r) with
   | bad off e => rw [lexL_bad hb' ho]; simp
   | tok kd sz =>
    rw [lexL_tok hb' ho]; have hs := one1_size ho; have := lexL_len k ((c :: r).drop sz) (p + sz) (by rw [List.length_drop, List.length_cons]; omega); rw [List.length_drop] at this; simp only [List.length_cons] at this hs ⊢; omega
end Go.Proofs.YtbcdaaobbebooaaGreatDoor
namespace Go.Proofs.YtbcdaaobbebooaaGreatDoor
set_option maxRecDepth 100000
set_option maxHeartbeats 20000000
open Go.RowKit Go.Tab
def tokC (t : Tok) : List Value := [.int .i64 t.kind, .string t.text, .int .i64 t.pos]
abbrev tokV (t : Tok) : Value := .agg #[.int .i64 t.kind, .string t.text, .int .i64 t.pos]
def OwnT (base : Nat) (w : World) (v : Value) (l : List Tok) : Prop := w.ownsRow base 63 3 v l.length (l.flatMap tokC)
theorem OwnT.nil {base : Nat} {w : World} : OwnT base w (.slice none 0 0) [] := World.ownsRow_nil _ _ _ _
theorem OwnT.alloc {base : Nat} {w : World} {v : Value} {l : List Tok} (h : OwnT base w v l) (o : Obj) : OwnT base (w.alloc o) v l := World.ownsRow.alloc h o
theorem OwnT.moved {base : Nat} {w w' : World} {v : Value} {l : List Tok} (h : OwnT base w v l) (hc : ∀ k, v.ownBlock = some k -> w'.heap[k]? = w.heap[k]?) : OwnT base w' v l := by
 obtain ⟨h1, h2⟩ := h; refine ⟨h1, ?_⟩; rcases h2 with h2 | ⟨g, cap, cur, rfl, hg0, hg, r⟩
 ·exact .inl h2
 ·exact .inr ⟨g, cap, cur, rfl, hg0, by rw [hc g rfl]; exact hg, r⟩
theorem OwnT.below {base B : Nat} {w w' : World} {v : Value} {l : List Tok} (h : OwnT base w v l) (hb : Below B w w') (hB : w.heap.size <= B) : OwnT base w' v l :=
 h.moved fun k hk => hb.block k (Nat.lt_of_lt_of_le (World.ownsRow.lt h k hk).2 hB)
theorem OwnT.base_le {base base' : Nat} {w : World} {v : Value} {l : List Tok} (h : OwnT base w v l) (hb : base' <= base) : OwnT base' w v l := by
 obtain ⟨h1, h2⟩ := h; refine ⟨h1, ?_⟩; rcases h2 with h2 | ⟨g, cap, cur, hv, hg0, r⟩
 ·exact .inl h2
 ·exact .inr ⟨g, cap, cur, hv, by omega, r⟩
theorem OwnT.len {base : Nat} {w : World} {v : Value} {l : List Tok} (h : OwnT base w v l) : ∃ a cap, v = .slice a l.length cap := by
 obtain ⟨h1, h2⟩ := h; rcases h2 with ⟨rfl, h3⟩ | ⟨g, cap, cur, rfl, _⟩
 ·exact ⟨none, 0, by rw [h3]⟩
 ·exact ⟨_, cap, rfl⟩
theorem Tryz.infoTok : (Tryz.prog.info? 63).map (fun i => (i.zero, i.size, i.bytes)) = some (some (.agg #[.int .i64 0, .string ⟨#[]⟩, .int .i64 0]), 3, 32) := by kernel_rfl
theorem tokC_one (t : Tok) : ∀ u ∈ tokC t, u.oneCell' = true := by
 intro u hu; simp only [tokC, List.mem_cons, List.not_mem_nil, or_false] at hu; rcases hu with rfl | rfl | rfl <;> rfl
theorem flat_tok : ∀ (l : List Tok) (j : Nat) (h : j < l.length), (l.flatMap tokC)[j * 3]? = some (.int .i64 l[j].kind) /\ (l.flatMap tokC)[j * 3 + 1]? = some (.string l[j].text) /\ (l.flatMap tokC)[j * 3 + 2]? = some (.int .i64 l[j].pos)
 | p :: l, 0, _ => by simp [tokC]
 | p :: l, j + 1, h => by
  have ih := flat_tok l j (by simpa using h); have e1 : (j + 1) * 3 = j * 3 + 3 := by omega
  rw [e1]
  simpa [tokC] using ih
def ToksAt (w : World) (v : Value) (l : List Tok) : Prop :=
 ∃ a cap, v = .slice a l.length cap /\ l.length <= cap /\ cap <= maxLen /\ (a = none -> cap = 0) /\
  ∀ x, a = some x -> l ≠ [] -> x.spot = none /\ x.block < w.heap.size /\ ∀ j (h : j < l.length), w.cell? ⟨x.block, x.off + j * 3, none⟩ = some (.int .i64 l[j].kind) /\
   w.cell? ⟨x.block, x.off + j * 3 + 1, none⟩ = some (.string l[j].text) /\ w.cell? ⟨x.block, x.off + j * 3 + 2, none⟩ = some (.int .i64 l[j].pos)
theorem ToksAt.nil {w : World} : ToksAt w (.slice none 0 0) [] := ⟨none, 0, rfl, Nat.le_refl _, Nat.zero_le _, fun _ => rfl, fun x hx => by cases hx⟩
theorem OwnT.toks {base : Nat} {w : World} {v : Value} {l : List Tok} (h : OwnT base w v l) : ToksAt w v l := by
 have hlt := World.ownsRow.lt h; obtain ⟨h1, h2⟩ := h; rcases h2 with ⟨rfl, h3⟩ | ⟨g, cap, cur, rfl, hb, hg, h3, h4, h5, h6⟩
 ·have : l = [] := List.eq_nil_of_length_eq_zero h3
  subst this; exact ToksAt.nil
 ·refine ⟨_, cap, rfl, h3, h4, (fun h => by cases h), fun x hx _ => ?_⟩
  cases hx
  refine ⟨rfl, (hlt g rfl).2, fun j hj => ?_⟩; obtain ⟨f1, f2, f3⟩ := flat_tok l j hj; rw [<- h6, List.getElem?_take, if_pos (by omega)] at f1 f2 f3; refine ⟨?_, ?_, ?_⟩
  ·rw [cell_of_row w g _ cur 63 (0, 0) hg]
   simpa using f1
  ·rw [cell_of_row w g _ cur 63 (0, 0) hg]
   simpa using f2
  ·rw [cell_of_row w g _ cur 63 (0, 0) hg]
   simpa using f3
theorem ToksAt.moved {w w' : World} {v : Value} {l : List Tok} (h : ToksAt w v l) (hs : w.heap.size <= w'.heap.size) (hc : ∀ b off, b < w.heap.size -> v.ownBlock = some b -> w'.cell? ⟨b, off, none⟩ = w.cell? ⟨b, off, none⟩) : ToksAt w' v l := by
 obtain ⟨a, cap, rfl, h1, h2, h3, h4⟩ := h; refine ⟨a, cap, rfl, h1, h2, h3, fun x hx hl => ?_⟩; obtain ⟨g1, g2, g3⟩ := h4 x hx hl; subst hx; refine ⟨g1, Nat.lt_of_lt_of_le g2 hs, fun j hj => ?_⟩; rw [hc _ _ g2 rfl, hc _ _ g2 rfl, hc _ _ g2 rfl]; exact g3 j hj
theorem ToksAt.below {w w' : World} {B : Nat} {v : Value} {l : List Tok} (h : ToksAt w v l) (hb : Below B w w') (hB : w.heap.size <= B) : ToksAt w' v l :=
 h.moved hb.size fun b off hx _ => hb.cell (Nat.lt_of_lt_of_le hx hB)
theorem ToksAt.get {w : World} {a : Option Addr} {n cap : Nat} {l : List Tok} (h : ToksAt w (.slice a n cap) l) {j : Nat} (hj : j < l.length) :
  ∃ b off, a = some ⟨b, off, none⟩ /\ b < w.heap.size /\ w.cell? ⟨b, off + j * 3, none⟩ = some (.int .i64 l[j].kind) /\ w.cell? ⟨b, off + j * 3 + 1, none⟩ = some (.string l[j].text) /\ w.cell? ⟨b, off + j * 3 + 2, none⟩ = some (.int .i64 l[j].pos) := by
 obtain ⟨a', cap', he, h1, h2, h3, h4⟩ := h; cases he
 cases a with
 | none => have := h3 rfl; omega
 | some x =>
  obtain ⟨b, off, sp⟩ := x; obtain ⟨rfl, g2, g3⟩ := h4 _ rfl (by intro h0; subst h0; simp at hj); exact ⟨b, off, rfl, g2, g3 j hj⟩
theorem ToksAt.len {w : World} {v : Value} {l : List Tok} (h : ToksAt w v l) : ∃ a cap, v = .slice a l.length cap /\ l.length <= cap /\ cap <= maxLen /\ (a = none -> cap = 0) := by
 obtain ⟨a, cap, h1, h2, h3, h4, -⟩ := h; exact ⟨a, cap, h1, h2, h3, h4⟩
section
variable {w : World} {ops : Array Oper} {rest : List Oper} {o : Oper} {a : Act} {Q : Exit -> Act -> World -> Prop}
theorem wpList_append_tok (hgd : Region.wanted o (yielded ops a.tmps) = true) (s x : Operand)
  (ho : o.op = .call { callee := .builtin .append, args := #[s, x], argTypes := #[22, 22] })
  (base : Nat) (l : List Tok) (t : Tok) (hown : OwnT base w (a.eval s) l) (g : Nat) (hx : a.eval x = .slice (some ⟨g, 0, none⟩) 1 1)
  (hc0 : w.cell? ⟨g, 0, none⟩ = some (.int .i64 t.kind)) (hc1 : w.cell? ⟨g, 1, none⟩ = some (.string t.text)) (hc2 : w.cell? ⟨g, 2, none⟩ = some (.int .i64 t.pos))
  (hm : l.length <= 1048576) (hbase : base <= w.heap.size) (w0 : World) (hb : Below base w0 w)
  (hK : ∀ v' w', OwnT base w' v' (l ++ [t]) -> Below base w0 w' -> w.grownBy w' (a.eval s).ownBlock -> wpList Tryz.prog ops Q rest (a.put o.dst v') w') : wpList Tryz.prog ops Q (o :: rest) a w := by
 refine wpList_want hgd fun K hK' => ?_; obtain ⟨i, hi1, hi2, hi3, hi4⟩ := info_parts Tryz.infoTok; refine wp_append_own w s x 22 ho base 63 i _ 3 32 Tryz.underlying22 hi1 hi2 hi3 hi4 rfl (by decide) (a.eval s) l.length (l.flatMap tokC) rfl hown ⟨g, 0, none⟩ 1 1 (tokC t) hx rfl ?_ (tokC_one t) (by unfold maxLen; omega) (by omega) hbase ?_
 ·intro j u hu
  rw [Addr.add_lit]
  match j with
  | 0 => simp [tokC] at hu; subst hu; simpa using hc0
  | 1 => simp [tokC] at hu; subst hu; simpa using hc1
  | 2 => simp [tokC] at hu; subst hu; simpa using hc2
  | j + 3 => simp [tokC] at hu
 ·intro v' w' hown' hg _
  refine hK' _ _ (hK v' w' ?_ (hb.trans (grown_below hg hbase (fun k hk => (World.ownsRow.lt hown k hk).1))) hg); unfold OwnT
  simpa using hown'
end
end Go.Proofs.YtbcdaaobbebooaaGreatDoor
namespace Go.Proofs.YtbcdaaobbebooaaGreatDoor
set_option maxRecDepth 100000
set_option maxHeartbeats 20000000
inductive Exp where
 | mk (op text : ByteArray) (kids : List Exp) : Exp
def Exp.kids : Exp -> List Exp
 | .mk _ _ k => k
def zeroX : Exp := .mk ⟨#[]⟩ ⟨#[]⟩ []
def lvTab : List (Bs × Int) := [([63], 0), ([124, 124], 1), ([38, 38], 2), ([61, 61], 3), ([33, 61], 3), ([60], 4), ([62], 4), ([60, 61], 4), ([62, 61], 4), ([43], 5), ([45], 5), ([42], 6), ([47], 6), ([37], 6), ([33], 7), ([110, 101, 103], 7),
 ([103, 101, 116], 8), ([97, 116], 8), ([110, 97, 109, 101], 8), ([99, 97, 108, 108], 8), ([110, 117, 109], 8), ([116, 101, 120, 116], 8), ([108, 105, 115, 116], 8)]
def lvN (s : ByteArray) : Int := match lvTab.find? (fun x => x.1 == s.data.toList) with
 | some x => x.2
 | none => -1
def isS (r : List Tok) (w : ByteArray) : Bool := match r with
 | [] => false
 | t :: _ => decide (t.kind = 4) && decide (t.text = w)
def isL (r : List Tok) (lv : Nat) : Option ByteArray := match r with
 | [] => none
 | t :: _ => if t.kind = 4 /\ lvN t.text = lv then some t.text else none
abbrev GotX := Exp × Nat × Int
def badX (r : List Tok) (n : Nat) : GotX := if r = [] then (zeroX, n, 2) else (zeroX, n, 3)
def upX (n : Nat) (g : GotX) : GotX := (g.1, n + g.2.1, g.2.2)
def quoX (s : ByteArray) : Option ByteArray :=
 if (scanQ (nb s.data.toList)).2.2 = 0 /\ (scanQ (nb s.data.toList)).2.1 = s.size then some (strL ((scanQ (nb s.data.toList)).1.map UInt8.ofNat)) else none
inductive Nt where
 | choice : Nt
 | term (lv : Nat) : Nt
 | tloop (lv : Nat) (a : Exp) : Nt
 | tight : Nt
 | post : Nt
 | ploop (a : Exp) : Nt
 | prime : Nt
 | many (shut : ByteArray) : Nt
 | mloop (shut : ByteArray) (l : List Exp) : Nt
abbrev sQ : ByteArray := ⟨#[63]⟩
abbrev sCo : ByteArray := ⟨#[58]⟩
abbrev sBang : ByteArray := ⟨#[33]⟩
abbrev sMinus : ByteArray := ⟨#[45]⟩
abbrev sDot : ByteArray := ⟨#[46]⟩
abbrev sComma : ByteArray := ⟨#[44]⟩
abbrev sLp : ByteArray := ⟨#[40]⟩
abbrev sRp : ByteArray := ⟨#[41]⟩
abbrev sLb : ByteArray := ⟨#[91]⟩
abbrev sRb : ByteArray := ⟨#[93]⟩
abbrev oNeg : ByteArray := ⟨#[110, 101, 103]⟩
abbrev oGet : ByteArray := ⟨#[103, 101, 116]⟩
abbrev oAt : ByteArray := ⟨#[97, 116]⟩
abbrev oName : ByteArray := ⟨#[110, 97, 109, 101]⟩
abbrev oCall : ByteArray := ⟨#[99, 97, 108, 108]⟩
abbrev oNum : ByteArray := ⟨#[110, 117, 109]⟩
abbrev oText : ByteArray := ⟨#[116, 101, 120, 116]⟩
abbrev oList : ByteArray := ⟨#[108, 105, 115, 116]⟩
abbrev oNo : ByteArray := ⟨#[]⟩
def deepX (n : Nat) : GotX := (zeroX, n, 5)
def andX (g : GotX) (f : Exp -> Nat -> GotX) : GotX := if g.2.2 = 0 then f g.1 g.2.1 else (zeroX, g.2)
def parX : Nat -> Nt -> List Tok -> Nat -> GotX
 | 0, _, _, _ => (zeroX, 0, -1)
 | n + 1, .choice, r, d => andX (parX n (.term 1) r d) fun a k =>
   if isS (r.drop k) sQ = false then (a, k, 0) else if 64 <= d then deepX k else
   andX (upX (k + 1) (parX n .choice (r.drop (k + 1)) (d + 1))) fun b k2 =>
   if isS (r.drop k2) sCo = false then badX (r.drop k2) k2 else
   andX (upX (k2 + 1) (parX n .choice (r.drop (k2 + 1)) (d + 1))) fun c k3 => (.mk sQ oNo [a, b, c], k3, 0)
 | n + 1, .term lv, r, d => if 7 <= lv then parX n .tight r d else
   andX (parX n (.term (lv + 1)) r d) fun a k => upX k (parX n (.tloop lv a) (r.drop k) d)
 | n + 1, .tloop lv a, r, d => match isL r lv with
   | none => (a, 0, 0)
   | some o => andX (upX 1 (parX n (.term (lv + 1)) (r.drop 1) d)) fun b k => upX k (parX n (.tloop lv (.mk o oNo [a, b])) (r.drop k) d)
 | n + 1, .tight, r, d => if isS r sBang = false /\ isS r sMinus = false then parX n .post r d else if 64 <= d then deepX 0 else
   andX (upX 1 (parX n .tight (r.drop 1) (d + 1))) fun a k => (.mk (if isS r sBang then sBang else oNeg) oNo [a], k, 0)
 | n + 1, .post, r, d => andX (parX n .prime r d) fun a k => upX k (parX n (.ploop a) (r.drop k) d)
 | n + 1, .ploop a, r, d =>
   if isS r sDot then match r.drop 1 with
    | [] => badX [] 1
    | t :: _ => if t.kind = 1 then upX 2 (parX n (.ploop (.mk oGet t.text [a])) (r.drop 2) d) else badX (r.drop 1) 1
   else if isS r sLb then (if 64 <= d then deepX 0 else
    andX (upX 1 (parX n .choice (r.drop 1) (d + 1))) fun b k => if isS (r.drop k) sRb = false then badX (r.drop k) k else upX (k + 1) (parX n (.ploop (.mk oAt oNo [a, b])) (r.drop (k + 1)) d))
   else (a, 0, 0)
 | n + 1, .prime, r, d => match r with
   | [] => badX [] 0
   | t :: r' =>
    if t.kind = 1 then (if isS r' sLp then andX (upX 1 (parX n (.many sRp) r' d)) fun x k => (.mk oCall t.text x.kids, k, 0) else (.mk oName t.text [], 1, 0))
    else if t.kind = 2 then (.mk oNum t.text [], 1, 0)
    else if t.kind = 3 then (match quoX t.text with | none => (zeroX, 0, 3) | some s => (.mk oText s [], 1, 0))
    else if isS r sLb then andX (parX n (.many sRb) r d) fun x k => (.mk oList oNo x.kids, k, 0)
    else if isS r sLp then (if 64 <= d then deepX 0 else andX (upX 1 (parX n .choice r' (d + 1))) fun a k => if isS (r.drop k) sRp = false then badX (r.drop k) k else (a, k + 1, 0))
    else badX r 0
 | n + 1, .many s, r, d => if 64 <= d then deepX 0 else if isS (r.drop 1) s then (.mk oNo oNo [], 2, 0) else upX 1 (parX n (.mloop s []) (r.drop 1) d)
 | n + 1, .mloop s l, r, d => andX (parX n .choice r (d + 1)) fun a k =>
   if isS (r.drop k) sComma then upX (k + 1) (parX n (.mloop s (l ++ [a])) (r.drop (k + 1)) d) else if isS (r.drop k) s then (.mk oNo oNo (l ++ [a]), k + 1, 0) else badX (r.drop k) k
def Nt.rank : Nt -> Nat
 | .choice => 14
 | .term lv => 13 - lv
 | .tloop _ _ => 2
 | .tight => 5
 | .post => 4
 | .ploop _ => 2
 | .prime => 3
 | .many _ => 2
 | .mloop _ _ => 15
def fuelX (t : Nt) (r : List Tok) : Nat := r.length * 16 + t.rank
theorem andX_ok {g : GotX} {f : Exp -> Nat -> GotX} (h : g.2.2 = 0) : andX g f = f g.1 g.2.1 := by rw [andX, if_pos h]
theorem andX_bad {g : GotX} {f : Exp -> Nat -> GotX} (h : g.2.2 ≠ 0) : andX g f = (zeroX, g.2) := by rw [andX, if_neg h]
def FineX (m : Nat) (r : List Tok) (g : GotX) : Prop := g.2.2 ≠ -1 /\ g.2.1 <= r.length /\ (g.2.2 = 0 -> m <= g.2.1)
theorem FineX.and {m m2 : Nat} {r : List Tok} {g : GotX} {f : Exp -> Nat -> GotX} (h : FineX m r g) (hf : g.2.2 = 0 -> m <= g.2.1 -> g.2.1 <= r.length -> FineX m2 r (f g.1 g.2.1)) : FineX m2 r (andX g f) := by
 by_cases he : g.2.2 = 0
 ·rw [andX_ok he]; exact hf he (h.2.2 he) h.2.1
 ·rw [andX_bad he]; exact ⟨h.1, h.2.1, fun e => absurd e he⟩
theorem FineX.up {m n : Nat} {r : List Tok} {g : GotX} (h : FineX m (r.drop n) g) (hn : n <= r.length) : FineX (n + m) r (upX n g) := by
 obtain ⟨h1, h2, h3⟩ := h; rw [List.length_drop] at h2; exact ⟨h1, by simp only [upX]; omega, fun e => by have := h3 e; simp only [upX]; omega⟩
theorem FineX.less {m m2 : Nat} {r : List Tok} {g : GotX} (h : FineX m r g) (hm : m2 <= m) : FineX m2 r g := ⟨h.1, h.2.1, fun e => Nat.le_trans hm (h.2.2 e)⟩
theorem FineX.ok {m n : Nat} {r : List Tok} {x : Exp} (h1 : n <= r.length) (h2 : m <= n) : FineX m r (x, n, 0) := ⟨(by decide : (0 : Int) ≠ -1), h1, fun _ => h2⟩
theorem FineX.bad {m : Nat} {r q : List Tok} {n : Nat} (hn : n <= r.length) : FineX m r (badX q n) := by
 unfold badX; split
 ·exact ⟨(by decide : (2 : Int) ≠ -1), hn, fun e => by cases e⟩
 ·exact ⟨(by decide : (3 : Int) ≠ -1), hn, fun e => by cases e⟩
theorem FineX.deep {m : Nat} {r : List Tok} {n : Nat} (hn : n <= r.length) : FineX m r (deepX n) := ⟨(by decide : (5 : Int) ≠ -1), hn, fun e => by cases e⟩
theorem isS_some {r : List Tok} {w : ByteArray} (h : isS r w = true) : 1 <= r.length := by cases r with | nil => cases h | cons t r => simp
theorem isS_none {r : List Tok} {w : ByteArray} (h : ¬ isS r w = false) : 1 <= r.length := isS_some (by simpa using h)
theorem isL_some {r : List Tok} {lv : Nat} {o : ByteArray} (h : isL r lv = some o) : 1 <= r.length := by cases r with | nil => cases h | cons t r => simp
theorem len_drop1 {r : List Tok} {k : Nat} (h : 1 <= (r.drop k).length) : k + 1 <= r.length := by rw [List.length_drop] at h; omega
def Nt.okX : Nt -> List Tok -> Prop
 | .term lv, _ => lv <= 7
 | .tloop lv _, _ => lv <= 6
 | .many _, r => 1 <= r.length
 | _, _ => True
def Nt.least : Nt -> Nat
 | .tloop _ _ => 0
 | .ploop _ => 0
 | _ => 1
theorem parX_fine : ∀ (n : Nat) (t : Nt) (r : List Tok) (d : Nat), fuelX t r <= n -> t.okX r -> FineX t.least r (parX n t r d) := by
 intro n
 induction n with
 | zero =>
  intro t r d h ht; exfalso
  unfold fuelX at h
  cases t with
  | term lv => simp only [Nt.rank] at h; simp only [Nt.okX] at ht; omega
  | _ => simp only [Nt.rank] at h; omega
 | succ n ih =>
  intro t r d h ht; unfold fuelX at h; have IH : ∀ (t : Nt) (r : List Tok) (d : Nat), r.length * 16 + t.rank <= n -> t.okX r -> FineX t.least r (parX n t r d) := fun t r d h => ih t r d h; clear ih
  cases t with
  | choice =>
   simp only [Nt.rank] at h; rw [parX]; refine (IH (.term 1) r d (by simp only [Nt.rank]; omega) (by simp only [Nt.okX]; omega)).and fun _ h1 h2 => ?_; simp only [Nt.least] at h1 ⊢; split
   ·exact (.ok (h2) (h1))
   ·next hq =>
    have hq := len_drop1 (isS_none hq); split
    ·exact .deep h2
    ·refine ((IH .choice (r.drop _) (d + 1) (by simp only [Nt.rank, List.length_drop]; omega) (by simp only [Nt.okX]; try omega)).up hq).and fun _ h3 h4 => ?_
     simp only [Nt.least] at h3; split
     ·exact .bad h4
     ·next hc =>
      have hc := len_drop1 (isS_none hc); refine ((IH .choice (r.drop _) (d + 1) (by simp only [Nt.rank, List.length_drop]; omega) (by simp only [Nt.okX]; try omega)).up hc).and fun _ h5 h6 => ?_; exact (.ok (h6) (by simp only [Nt.least] at *; omega))
  | term lv =>
   simp only [Nt.rank] at h; simp only [Nt.okX] at ht; rw [parX]; split
   ·exact IH .tight r d (by simp only [Nt.rank]; omega) (by simp only [Nt.okX]; try omega)
   ·refine (IH (.term (lv + 1)) r d (by simp only [Nt.rank]; omega) (by simp only [Nt.okX]; omega)).and fun _ h1 h2 => ?_
    simp only [Nt.least] at h1; exact ((IH (.tloop lv _) (r.drop _) d (by simp only [Nt.rank, List.length_drop]; omega) (by simp only [Nt.okX]; try omega)).up h2).less (by simp only [Nt.least]; omega)
  | tloop lv a =>
   simp only [Nt.rank] at h; rw [parX]; split
   ·exact (.ok (Nat.zero_le _) (Nat.zero_le _))
   ·next o ho =>
    have hl := isL_some ho; refine ((IH (.term (lv + 1)) (r.drop 1) d (by simp only [Nt.rank, List.length_drop]; omega) (by simp only [Nt.okX] at ht ⊢; omega)).up hl).and fun _ h1 h2 => ?_; simp only [Nt.least] at h1; exact ((IH (.tloop lv _) (r.drop _) d (by simp only [Nt.rank, List.length_drop]; omega) ht).up h2).less (Nat.zero_le _)
  | tight =>
   simp only [Nt.rank] at h; rw [parX]; split
   ·exact IH .post r d (by simp only [Nt.rank]; omega) (by simp only [Nt.okX]; try omega)
   ·next hs =>
    have hl : 1 <= r.length := by
     by_cases h1 : isS r sBang = false
     ·exact isS_none (w := sMinus) (fun h2 => hs ⟨h1, h2⟩)
     ·exact isS_none h1
    split
    ·exact .deep (Nat.zero_le _)
    ·refine ((IH .tight (r.drop 1) (d + 1) (by simp only [Nt.rank, List.length_drop]; omega) (by simp only [Nt.okX]; try omega)).up hl).and fun _ h1 h2 => ?_
     exact (.ok (h2) (by simp only [Nt.least] at *; omega))
  | post =>
   simp only [Nt.rank] at h; rw [parX]; refine (IH .prime r d (by simp only [Nt.rank]; omega) (by simp only [Nt.okX]; try omega)).and fun _ h1 h2 => ?_; simp only [Nt.least] at h1; exact ((IH (.ploop _) (r.drop _) d (by simp only [Nt.rank, List.length_drop]; omega) (by simp only [Nt.okX]; try omega)).up h2).less (by simp only [Nt.least]; omega)
  | ploop a =>
   simp only [Nt.rank] at h; rw [parX]; split
   ·next hs =>
    have hl := isS_some hs; split
    ·exact .bad hl
    ·next t q hq =>
     have hl2 : 2 <= r.length := by have := congrArg List.length hq; simp at this; omega
     split
     ·exact ((IH (.ploop _) (r.drop 2) d (by simp only [Nt.rank, List.length_drop]; omega) (by simp only [Nt.okX]; try omega)).up hl2).less (Nat.zero_le _)
     ·exact .bad hl
   ·split
    ·next hs =>
     have hl := isS_some hs; split
     ·exact .deep (Nat.zero_le _)
     ·refine ((IH .choice (r.drop 1) (d + 1) (by simp only [Nt.rank, List.length_drop]; omega) (by simp only [Nt.okX]; try omega)).up hl).and fun _ h1 h2 => ?_
      simp only [Nt.least] at h1; split
      ·exact .bad h2
      ·next hb =>
       have hb := len_drop1 (isS_none hb); exact ((IH (.ploop _) (r.drop _) d (by simp only [Nt.rank, List.length_drop]; omega) (by simp only [Nt.okX]; try omega)).up hb).less (Nat.zero_le _)
    ·exact (.ok (Nat.zero_le _) (Nat.zero_le _))
  | prime =>
   simp only [Nt.rank] at h
   cases r with
   | nil => exact .bad (Nat.zero_le _)
   | cons t r' =>
    simp only [parX]; simp only [List.length_cons] at h; split
    ·split
     ·next hs =>
      have := ((IH (.many sRp) ((t :: r').drop 1) d (by simp only [Nt.rank, List.length_drop, List.length_cons]; omega) (isS_some hs)).up (n := 1) (by simp)); refine this.and fun _ h1 h2 => ?_; exact (.ok (h2) (by simp only [Nt.least] at *; omega))
     ·exact (.ok (by simp) (Nat.le_refl _))
    ·split
     ·exact (.ok (by simp) (Nat.le_refl _))
     ·split
      ·split
       ·exact ⟨(by decide : (3 : Int) ≠ -1), Nat.zero_le _, fun e => by cases e⟩
       ·exact (.ok (by simp) (Nat.le_refl _))
      ·split
       ·refine (IH (.many sRb) (t :: r') d (by simp only [Nt.rank, List.length_cons]; omega) (by simp [Nt.okX])).and fun _ h1 h2 => ?_
        exact (.ok (h2) (h1))
       ·split
        ·split
         ·exact .deep (Nat.zero_le _)
         ·refine ((IH .choice ((t :: r').drop 1) (d + 1) (by simp only [Nt.rank, List.length_drop, List.length_cons]; omega) (by simp only [Nt.okX]; try omega)).up (n := 1) (by simp)).and fun _ h1 h2 => ?_
          simp only [Nt.least] at h1; split
          ·exact .bad h2
          ·next hb => exact (.ok (len_drop1 (isS_none hb)) (by simp only [Nt.least] at *; omega))
        ·exact .bad (Nat.zero_le _)
  | many s =>
   simp only [Nt.rank] at h; have hl : 1 <= r.length := ht; rw [parX]; split
   ·exact .deep (Nat.zero_le _)
   ·split
    ·next hs => exact (.ok (len_drop1 (isS_some hs)) (by simp only [Nt.least] at *; omega))
    ·exact ((IH (.mloop s []) (r.drop 1) d (by simp only [Nt.rank, List.length_drop]; omega) (by simp only [Nt.okX]; try omega)).up hl).less (by simp only [Nt.least]; omega)
  | mloop s l =>
   simp only [Nt.rank] at h; rw [parX]; refine (IH .choice r (d + 1) (by simp only [Nt.rank]; omega) (by simp only [Nt.okX]; try omega)).and fun _ h1 h2 => ?_; simp only [Nt.least] at h1; split
   ·next hs =>
    have hs := len_drop1 (isS_some hs); exact ((IH (.mloop s _) (r.drop _) d (by simp only [Nt.rank, List.length_drop]; omega) (by simp only [Nt.okX]; try omega)).up hs).less (by simp only [Nt.least]; omega)
   ·split
    ·next hs => exact (.ok (len_drop1 (isS_some hs)) (by simp only [Nt.least] at *; omega))
    ·exact .bad h2
end Go.Proofs.YtbcdaaobbebooaaGreatDoor
namespace Go.Proofs.YtbcdaaobbebooaaGreatDoor
set_option maxRecDepth 100000
set_option maxHeartbeats 20000000
def FineY (m : Nat) (r : List Tok) (g : GotX) : Prop := g.2.2 ≠ -1 -> g.2.1 <= r.length /\ (g.2.2 = 0 -> m <= g.2.1)
theorem FineY.and {m m2 : Nat} {r : List Tok} {g : GotX} {f : Exp -> Nat -> GotX} (h : FineY m r g) (hf : g.2.2 = 0 -> m <= g.2.1 -> g.2.1 <= r.length -> FineY m2 r (f g.1 g.2.1)) : FineY m2 r (andX g f) := by
 by_cases he : g.2.2 = 0
 ·rw [andX_ok he]
  have h1 := h (by rw [he]; decide); exact hf he (h1.2 he) h1.1
 ·rw [andX_bad he]; exact fun hn => ⟨(h hn).1, fun e => absurd e he⟩
theorem FineY.up {m n : Nat} {r : List Tok} {g : GotX} (h : FineY m (r.drop n) g) (hn : n <= r.length) : FineY (n + m) r (upX n g) := by
 intro h0; obtain ⟨h2, h3⟩ := h h0; rw [List.length_drop] at h2; exact ⟨by simp only [upX]; omega, fun e => by have := h3 e; simp only [upX]; omega⟩
theorem FineY.less {m m2 : Nat} {r : List Tok} {g : GotX} (h : FineY m r g) (hm : m2 <= m) : FineY m2 r g := fun h0 => ⟨(h h0).1, fun e => Nat.le_trans hm ((h h0).2 e)⟩
theorem FineY.ok {m n : Nat} {r : List Tok} {x : Exp} (h1 : n <= r.length) (h2 : m <= n) : FineY m r (x, n, 0) := fun _ => ⟨h1, fun _ => h2⟩
theorem FineY.bad {m : Nat} {r q : List Tok} {n : Nat} (hn : n <= r.length) : FineY m r (badX q n) := by
 unfold badX; split
 ·exact fun _ => ⟨hn, fun e => by cases e⟩
 ·exact fun _ => ⟨hn, fun e => by cases e⟩
theorem FineY.deep {m : Nat} {r : List Tok} {n : Nat} (hn : n <= r.length) : FineY m r (deepX n) := fun _ => ⟨hn, fun e => by cases e⟩
theorem parX_le : ∀ (n : Nat) (t : Nt) (r : List Tok) (d : Nat), t.okX r -> FineY t.least r (parX n t r d) := by
 intro n
 induction n with
 | zero =>
  intro t r d _ h; exact absurd rfl h
 | succ n ih =>
  intro t r d ht; have IH : ∀ (t : Nt) (r : List Tok) (d : Nat), t.okX r -> FineY t.least r (parX n t r d) := fun t r d h => ih t r d h; clear ih
  cases t with
  | choice =>
   rw [parX]; refine (IH (.term 1) r d (by simp only [Nt.okX]; omega)).and fun _ h1 h2 => ?_; simp only [Nt.least] at h1 ⊢; split
   ·exact (.ok (h2) (h1))
   ·next hq =>
    have hq := len_drop1 (isS_none hq); split
    ·exact .deep h2
    ·refine ((IH .choice (r.drop _) (d + 1) (by simp only [Nt.okX]; try omega)).up hq).and fun _ h3 h4 => ?_
     simp only [Nt.least] at h3; split
     ·exact .bad h4
     ·next hc =>
      have hc := len_drop1 (isS_none hc); refine ((IH .choice (r.drop _) (d + 1) (by simp only [Nt.okX]; try omega)).up hc).and fun _ h5 h6 => ?_; exact (.ok (h6) (by simp only [Nt.least] at *; omega))
  | term lv =>
   simp only [Nt.okX] at ht; rw [parX]; split
   ·exact IH .tight r d (by simp only [Nt.okX]; try omega)
   ·refine (IH (.term (lv + 1)) r d (by simp only [Nt.okX]; omega)).and fun _ h1 h2 => ?_
    simp only [Nt.least] at h1; exact ((IH (.tloop lv _) (r.drop _) d (by simp only [Nt.okX]; try omega)).up h2).less (by simp only [Nt.least]; omega)
  | tloop lv a =>
   rw [parX]; split
   ·exact (.ok (Nat.zero_le _) (Nat.zero_le _))
   ·next o ho =>
    have hl := isL_some ho; refine ((IH (.term (lv + 1)) (r.drop 1) d (by simp only [Nt.okX] at ht ⊢; omega)).up hl).and fun _ h1 h2 => ?_; simp only [Nt.least] at h1; exact ((IH (.tloop lv _) (r.drop _) d ht).up h2).less (Nat.zero_le _)
  | tight =>
   rw [parX]; split
   ·exact IH .post r d (by simp only [Nt.okX]; try omega)
   ·next hs =>
    have hl : 1 <= r.length := by
     by_cases h1 : isS r sBang = false
     ·exact isS_none (w := sMinus) (fun h2 => hs ⟨h1, h2⟩)
     ·exact isS_none h1
    split
    ·exact .deep (Nat.zero_le _)
    ·refine ((IH .tight (r.drop 1) (d + 1) (by simp only [Nt.okX]; try omega)).up hl).and fun _ h1 h2 => ?_
     exact (.ok (h2) (by simp only [Nt.least] at *; omega))
  | post =>
   rw [parX]; refine (IH .prime r d (by simp only [Nt.okX]; try omega)).and fun _ h1 h2 => ?_; simp only [Nt.least] at h1; exact ((IH (.ploop _) (r.drop _) d (by simp only [Nt.okX]; try omega)).up h2).less (by simp only [Nt.least]; omega)
  | ploop a =>
   rw [parX]; split
   ·next hs =>
    have hl := isS_some hs; split
    ·exact .bad hl
    ·next t q hq =>
     have hl2 : 2 <= r.length := by have := congrArg List.length hq; simp at this; omega
     split
     ·exact ((IH (.ploop _) (r.drop 2) d (by simp only [Nt.okX]; try omega)).up hl2).less (Nat.zero_le _)
     ·exact .bad hl
   ·split
    ·next hs =>
     have hl := isS_some hs; split
     ·exact .deep (Nat.zero_le _)
     ·refine ((IH .choice (r.drop 1) (d + 1) (by simp only [Nt.okX]; try omega)).up hl).and fun _ h1 h2 => ?_
      simp only [Nt.least] at h1; split
      ·exact .bad h2
      ·next hb =>
       have hb := len_drop1 (isS_none hb); exact ((IH (.ploop _) (r.drop _) d (by simp only [Nt.okX]; try omega)).up hb).less (Nat.zero_le _)
    ·exact (.ok (Nat.zero_le _) (Nat.zero_le _))
  | prime =>
   cases r with
   | nil => exact .bad (Nat.zero_le _)
   | cons t r' =>
    simp only [parX]; split
    ·split
     ·next hs =>
      have := ((IH (.many sRp) ((t :: r').drop 1) d (isS_some hs)).up (n := 1) (by simp)); refine this.and fun _ h1 h2 => ?_; exact (.ok (h2) (by simp only [Nt.least] at *; omega))
     ·exact (.ok (by simp) (Nat.le_refl _))
    ·split
     ·exact (.ok (by simp) (Nat.le_refl _))
     ·split
      ·split
       ·exact fun _ => ⟨Nat.zero_le _, fun e => by cases e⟩
       ·exact (.ok (by simp) (Nat.le_refl _))
      ·split
       ·refine (IH (.many sRb) (t :: r') d (by simp [Nt.okX])).and fun _ h1 h2 => ?_
        exact (.ok (h2) (h1))
       ·split
        ·split
         ·exact .deep (Nat.zero_le _)
         ·refine ((IH .choice ((t :: r').drop 1) (d + 1) (by simp only [Nt.okX]; try omega)).up (n := 1) (by simp)).and fun _ h1 h2 => ?_
          simp only [Nt.least] at h1; split
          ·exact .bad h2
          ·next hb => exact (.ok (len_drop1 (isS_none hb)) (by simp only [Nt.least] at *; omega))
        ·exact .bad (Nat.zero_le _)
  | many s =>
   have hl : 1 <= r.length := ht; rw [parX]; split
   ·exact .deep (Nat.zero_le _)
   ·split
    ·next hs => exact (.ok (len_drop1 (isS_some hs)) (by simp only [Nt.least] at *; omega))
    ·exact ((IH (.mloop s []) (r.drop 1) d (by simp only [Nt.okX]; try omega)).up hl).less (by simp only [Nt.least]; omega)
  | mloop s l =>
   rw [parX]; refine (IH .choice r (d + 1) (by simp only [Nt.okX]; try omega)).and fun _ h1 h2 => ?_; simp only [Nt.least] at h1; split
   ·next hs =>
    have hs := len_drop1 (isS_some hs); exact ((IH (.mloop s _) (r.drop _) d (by simp only [Nt.okX]; try omega)).up hs).less (by simp only [Nt.least]; omega)
   ·split
    ·next hs => exact (.ok (len_drop1 (isS_some hs)) (by simp only [Nt.least] at *; omega))
    ·exact .bad h2
end Go.Proofs.YtbcdaaobbebooaaGreatDoor
namespace Go.Proofs.YtbcdaaobbebooaaGreatDoor
set_option maxRecDepth 100000
set_option maxHeartbeats 20000000
def amongB (t : Tok) (all : List UInt8) : Bool := decide (t.kind = 4) && (match t.text.data.toList with | [c] => all.contains c | _ => false)
def comB (t : Tok) : Bool := decide (t.kind = 6) || decide (t.kind = 7)
def wordB (t : Tok) : Bool := decide (t.kind = 1) || (decide (t.kind = 2) || decide (t.kind = 3))
def behL : List Tok -> Bool
 | [] => false
 | t :: r => if comB t then behL r else decide (t.kind = 4) && !amongB t [41, 93]
def behB (row : List Tok) (i : Nat) : Bool := behL (row.take i).reverse
def gapT (a b : Tok) (m : Bool) : Nat :=
 if comB a || comB b then 1
 else if amongB a [40, 91, 46] || amongB b [41, 93, 44, 46] then 0
 else if amongB b [40] && decide (a.kind = 1) then 0
 else if amongB b [91] && (wordB a || amongB a [41, 93]) then 0
 else if amongB a [33] || (amongB a [45] && m) then 0
 else if amongB a [123] && amongB b [125] then 0
 else 1
def gapN (row : List Tok) : Nat -> Nat
 | 0 => 0
 | i + 1 => match row[i]?, row[i + 1]? with
  | some a, some b => gapT a b (behB row i)
  | _, _ => 0
def isB (t : Tok) (w : ByteArray) : Bool := decide (t.kind = 4) && decide (t.text = w)
theorem among_one (t : Tok) (c : UInt8) : amongB t [c] = isB t (strL [c]) := by
 unfold amongB isB
 congr 1
 by_cases h : t.text = strL [c]
 ·rw [decide_eq_true h, h]
  simp [strL]
 ·rw [decide_eq_false h]
  split
  ·next x hx =>
   simp only [List.contains_cons, List.contains_nil, Bool.or_false]
   by_cases e : x = c
   ·exact absurd (str_ext (by rw [hx, e]; rfl)) h
   ·simpa using e
  ·rfl
theorem among_cons (t : Tok) (c : UInt8) (r : List UInt8) : amongB t (c :: r) = (isB t (strL [c]) || amongB t r) := by
 rw [<- among_one]; unfold amongB; cases decide (t.kind = 4)
 ·rfl
 ·simp only [Bool.true_and]
  split
  ·simp
  ·rfl
theorem among_nil (t : Tok) : amongB t [] = false := by
 unfold amongB; split <;> simp
def gapR (a b : Tok) (m : Bool) : Nat :=
 if comB a || comB b then 1
 else if isB a (strL [40]) || (isB a (strL [91]) || (isB a (strL [46]) || (isB a (strL [33]) || (isB a (strL [45]) && m)))) then 0
 else if isB b (strL [41]) || (isB b (strL [93]) || (isB b (strL [44]) || isB b (strL [46]))) then 0
 else if (isB b (strL [40]) && decide (a.kind = 1)) || ((isB b (strL [91]) && (wordB a || (isB a (strL [41]) || isB a (strL [93])))) || (isB a (strL [123]) && isB b (strL [125]))) then 0
 else 1
theorem gap_same (a b : Tok) (m : Bool) : gapT a b m = gapR a b m := by
 unfold gapT gapR; simp only [among_cons, among_nil, Bool.or_false]; have h : ∀ (c d : Bool) (e : Nat), (if c = true then 0 else if d = true then 0 else e) = if (c || d) = true then 0 else e := by intro c d e; cases c <;> cases d <;> rfl
 simp only [h]
 by_cases h0 : (comB a || comB b) = true
 ·rw [if_pos h0, if_pos h0]
 ·rw [if_neg h0, if_neg h0]
  congr 2
  ac_rfl
end Go.Proofs.YtbcdaaobbebooaaGreatDoor
namespace Go.Proofs.YtbcdaaobbebooaaGreatDoor
set_option maxRecDepth 100000
set_option maxHeartbeats 20000000
open Go.RowKit Go.Tab
theorem list_inj {a b : ByteArray} (h : a.toList = b.toList) : a = b :=
 ByteArray.ext (Array.ext' (by rw [ByteArray.toList_eq, ByteArray.toList_eq] at h; exact h))
theorem str_ne {a b : ByteArray} (h : ¬ a = b) : (a.toList == b.toList) = false := by
 rw [beq_eq_false_iff_ne]; exact fun h1 => h (list_inj h1)
theorem cell_same {w w' : World} {b : Nat} (h : w'.heap[b]? = w.heap[b]?) (off : Nat) : w'.cell? ⟨b, off, none⟩ = w.cell? ⟨b, off, none⟩ := by
 simp only [World.cell?, h]
theorem frozen_same {w w' : World} {b : Nat} (h : w'.heap[b]? = w.heap[b]?) (off : Nat) : w'.frozen? ⟨b, off, none⟩ = w.frozen? ⟨b, off, none⟩ := by
 simp only [World.frozen?, h]
theorem cells_at {w : World} {base n : Nat} {a : Addr} {cs : List Value} (h : w.cells? base a n = some cs) : cs.length = n /\ ∀ j u, cs[j]? = some u -> w.cell? (a.add j) = some u := by
 unfold World.cells? at h; split at h
 ·have hl := mapM_some_length h
  simp at hl
  refine ⟨hl, fun j u hu => ?_⟩; have hj := (List.getElem?_eq_some_iff.1 hu).1; have := mapM_some_get h j j (List.getElem?_range (by omega)); rw [hu] at this; exact this
 ·cases h
theorem len3 {α : Type} {l : List α} (h : l.length = 3) : ∃ a b c, l = [a, b, c] := by
 match l, h with
 | [a, b, c], _ => exact ⟨a, b, c, rfl⟩
section
variable {P : Program} {w : World} {ops : Array Oper} {rest : List Oper} {o : Oper} {a : Act} {Q : Exit -> Act -> World -> Prop}
end
def setAll (w : World) (B : Nat) : Nat -> List Value -> World
 | _, [] => w
 | o, v :: r => setAll (w.setCell ⟨B, o, none⟩ v) B (o + 1) r
def putAll : Array Value -> Nat -> List Value -> Array Value
 | arr, _, [] => arr
 | arr, o, v :: r => putAll (arr.setIfInBounds o v) (o + 1) r
theorem Cells.setI {w : World} {B : Nat} {arr : Array Value} {T : TypeId} (h : Cells w B arr T) (o : Nat) (v : Value) : Cells (w.setCell ⟨B, o, none⟩ v) B (arr.setIfInBounds o v) T := by
 obtain ⟨hlt, hk⟩ := Array.getElem?_eq_some_iff.1 h; show (w.heap.modify B _)[B]? = _; rw [Array.getElem?_eq_getElem (by rw [Array.size_modify]; exact hlt), Array.getElem_modify_self, hk]; simp
theorem Cells.put {B : Nat} {T : TypeId} : ∀ (cs : List Value) (o : Nat) {w : World} {arr : Array Value}, Cells w B arr T -> Cells (setAll w B o cs) B (putAll arr o cs) T
 | [], _, _, _, h => h
 | v :: r, o, _, _, h => Cells.put r (o + 1) (h.setI o v)
theorem setAll_other (B : Nat) : ∀ (cs : List Value) (o : Nat) (w : World) (k : Nat), k ≠ B -> (setAll w B o cs).heap[k]? = w.heap[k]?
 | [], _, _, _, _ => rfl
 | v :: r, o, w, k, h => by
  rw [setAll, setAll_other B r _ _ _ h]; exact Below.heap_setCell _ _ _ _ h
theorem setAll_size (B : Nat) : ∀ (cs : List Value) (o : Nat) (w : World), (setAll w B o cs).heap.size = w.heap.size
 | [], _, _ => rfl
 | v :: r, o, w => by rw [setAll, setAll_size B r]; simp [World.setCell]
theorem setAll_below (B L : Nat) (hL : L <= B) : ∀ (cs : List Value) (o : Nat) (w w' : World), Below L w w' -> Below L w (setAll w' B o cs)
 | [], _, _, _, h => h
 | v :: r, o, w, w', h => setAll_below B L hL r _ _ _ (h.setCell (by exact hL) _)
theorem Cells.setAllOther {w : World} {B g o : Nat} {cs : Array Value} {T : TypeId} {l : List Value} (h : Cells w g cs T) (hne : g ≠ B) : Cells (setAll w B o l) g cs T := (setAll_other B l o w g hne).trans h
def Save (g : Nat) (w w' : World) : Prop := Below 0 w w' /\ ∀ k, k < w.heap.size -> k ≠ g -> w'.heap[k]? = w.heap[k]?
section
variable {g : Nat} {w w' w'' : World}
theorem Save.size (h : Save g w w') : w.heap.size <= w'.heap.size := h.1.size
theorem Save.refl (g : Nat) (w : World) : Save g w w := ⟨Below.refl _ _, fun _ _ _ => rfl⟩
theorem Save.trans (h : Save g w w') (h2 : Save g w' w'') : Save g w w'' :=
 ⟨h.1.trans h2.1, fun k hk hn => (h2.2 k (Nat.lt_of_lt_of_le hk h.size) hn).trans (h.2 k hk hn)⟩
theorem Save.of (h : Below w.heap.size w w') : Save g w w' := ⟨h.mono (Nat.zero_le _), fun k hk _ => h.block k hk⟩
theorem Save.drew (h : Save g w w') : Save g w w'.drew := ⟨h.1.drew, h.2⟩
theorem Save.drewN (h : Save g w w') (n : Nat) : Save g w (w'.drewN n) := ⟨below_drewN h.1 n, h.2⟩
theorem Save.alloc (h : Save g w w') (o : Obj) : Save g w (w'.alloc o) := h.trans (Save.of ((Below.refl _ _).alloc (Nat.le_refl _) _))
theorem Save.set (h : Save g w w') (j : Nat) (v : Value) : Save g w (w'.setCell ⟨g, j, none⟩ v) :=
 ⟨h.1.setCell (Nat.zero_le _) _, fun k hk hn => (Below.heap_setCell _ _ _ _ hn).trans (h.2 k hk hn)⟩
theorem Save.grown {row : Option Nat} (h : Save g w w') (hg : w'.grownBy w'' row) (hr : ∀ k, row = some k -> w.heap.size <= k) : Save g w w'' :=
 ⟨h.1.grown hg (Nat.zero_le _) (fun _ _ => Nat.zero_le _), fun k hk hn => (hg.block k (Nat.lt_of_lt_of_le hk h.size) (fun e => by have := hr k e.symm; omega)).trans (h.2 k hk hn)⟩
theorem Save.cells {k : Nat} {cs : Array Value} {t : TypeId} (h : Save g w w') (hc : Cells w k cs t) (hk : k ≠ g) : Cells w' k cs t := (h.2 k hc.lt hk).trans hc
theorem Save.cell {k off : Nat} {v : Value} (h : Save g w w') (hc : w.cell? ⟨k, off, none⟩ = some v) (hk : k ≠ g) : w'.cell? ⟨k, off, none⟩ = some v :=
 (cell_same (h.2 k (World.block_lt_of_cell? w _ hc) hk) off).trans hc
theorem Save.under {B : Nat} (h : Save g w w') (h1 : B <= g) (h2 : B <= w.heap.size) : Below B w w' := ⟨h.1.os, h.1.tape, h.1.output, h.size, fun k hk => h.2 k (by omega) (by omega)⟩
theorem Save.chain {w0 : World} (h : Save g w w') (hb : Below w0.heap.size w0 w) (h1 : w0.heap.size <= g) : Below w0.heap.size w0 w' := hb.trans (h.under h1 hb.size)
end
end Go.Proofs.YtbcdaaobbebooaaGreatDoor
namespace Go.Proofs.YtbcdaaobbebooaaGreatDoor
set_option maxRecDepth 100000
set_option maxHeartbeats 20000000
open Go.RowKit Go.Tab Go.ChangeShapes
abbrev expV (o t : ByteArray) (kv : Value) : List Value := [.string o, .string t, kv]
abbrev exV (o t : ByteArray) (kv : Value) : Value := .agg #[.string o, .string t, kv]
mutual
def ExpAt (w : World) : Exp -> List Value -> Prop
 | .mk op text kids, cs => ∃ a cap, cs = [.string op, .string text, .slice a kids.length cap] /\
   kids.length <= cap /\ cap <= maxLen /\ (a = none -> cap = 0) /\ ∀ x, a = some x -> kids ≠ [] -> x.spot = none /\ x.block < w.heap.size /\ ExpsAt w x.block x.off kids
def ExpsAt (w : World) (b off : Nat) : List Exp -> Prop
 | [] => True
 | t :: r => (∃ cs, (∀ j u, cs[j]? = some u -> w.cell? ⟨b, off + j, none⟩ = some u) /\ ExpAt w t cs) /\ ExpsAt w b (off + 3) r
end
theorem ExpAt.shape {w : World} {t : Exp} {cs : List Value} (h : ExpAt w t cs) : ∃ op text sa sn sc, cs = [.string op, .string text, .slice sa sn sc] := by
 cases t
 simp only [ExpAt] at h; obtain ⟨a, cap, rfl, -⟩ := h; exact ⟨_, _, _, _, _, rfl⟩
section
variable {H : Type} {enc : TypeId × Value -> H} {W : World} {base : Nat} {spare : Nat -> Bool} {held : Bool}
end
end Go.Proofs.YtbcdaaobbebooaaGreatDoor
namespace Go.Proofs.YtbcdaaobbebooaaGreatDoor
set_option maxRecDepth 100000
set_option maxHeartbeats 20000000
open Go.RowKit Go.Tab
mutual
def ExpIn (P : Nat -> Prop) (w : World) : Exp -> List Value -> Prop
 | .mk op text kids, cs => ∃ a cap, cs = [.string op, .string text, .slice a kids.length cap] /\
   kids.length <= cap /\ cap <= maxLen /\ (a = none -> cap = 0) /\ ∀ x, a = some x -> kids ≠ [] -> x.spot = none /\ (x.block < w.heap.size /\ P x.block /\ ∀ off, w.frozen? ⟨x.block, off, none⟩ = false) /\ ExpsIn P w x.block x.off kids
def ExpsIn (P : Nat -> Prop) (w : World) (b off : Nat) : List Exp -> Prop
 | [] => True
 | t :: r => (∃ cs, (∀ j u, cs[j]? = some u -> w.cell? ⟨b, off + j, none⟩ = some u) /\ ExpIn P w t cs) /\ ExpsIn P w b (off + 3) r
end
mutual
theorem ExpIn.at {P : Nat -> Prop} {w : World} : ∀ (t : Exp) (cs : List Value), ExpIn P w t cs -> ExpAt w t cs
 | .mk op text kids, cs, h => by
  simp only [ExpIn] at h; simp only [ExpAt]; obtain ⟨a, cap, h1, h3, h4, h5, h6⟩ := h; refine ⟨a, cap, h1, h3, h4, h5, fun x hx hne => ?_⟩; obtain ⟨g1, g2, g3⟩ := h6 x hx hne; exact ⟨g1, g2.1, ExpsIn.at kids x.off g3⟩
theorem ExpsIn.at {P : Nat -> Prop} {w : World} {b : Nat} : ∀ (l : List Exp) (off : Nat), ExpsIn P w b off l -> ExpsAt w b off l
 | [], _, _ => by simp only [ExpsAt]
 | t :: r, off, h => by
  simp only [ExpsIn] at h; simp only [ExpsAt]; obtain ⟨⟨cs, h1, h2⟩, h3⟩ := h; exact ⟨⟨cs, h1, ExpIn.at t cs h2⟩, ExpsIn.at r _ h3⟩
end
mutual
theorem ExpIn.move {P Q : Nat -> Prop} {w w' : World} (hs : w.heap.size <= w'.heap.size) (hb : ∀ k, P k -> k < w.heap.size -> w'.heap[k]? = w.heap[k]?) (hq : ∀ k, P k -> k < w.heap.size -> Q k) :
  ∀ (t : Exp) (cs : List Value), ExpIn P w t cs -> ExpIn Q w' t cs
 | .mk op text kids, cs, h => by
  simp only [ExpIn] at h ⊢; obtain ⟨a, cap, h1, h3, h4, h5, h6⟩ := h; refine ⟨a, cap, h1, h3, h4, h5, fun x hx hne => ?_⟩; obtain ⟨g1, g2, g3⟩ := h6 x hx hne; exact ⟨g1, ⟨Nat.lt_of_lt_of_le g2.1 hs, hq _ g2.2.1 g2.1, fun off => (frozen_same (hb _ g2.2.1 g2.1) off).trans (g2.2.2 off)⟩, ExpsIn.move hs hb hq ⟨g2.1, g2.2.1⟩ kids x.off g3⟩
theorem ExpsIn.move {P Q : Nat -> Prop} {w w' : World} (hs : w.heap.size <= w'.heap.size) (hb : ∀ k, P k -> k < w.heap.size -> w'.heap[k]? = w.heap[k]?) (hq : ∀ k, P k -> k < w.heap.size -> Q k) {b : Nat} (hP : b < w.heap.size /\ P b) :
  ∀ (l : List Exp) (off : Nat), ExpsIn P w b off l -> ExpsIn Q w' b off l
 | [], _, _ => by simp only [ExpsIn]
 | t :: r, off, h => by
  simp only [ExpsIn] at h ⊢; obtain ⟨⟨cs, h1, h2⟩, h3⟩ := h; exact ⟨⟨cs, fun j u hu => (cell_same (hb b hP.2 hP.1) _).trans (h1 j u hu), ExpIn.move hs hb hq t cs h2⟩, ExpsIn.move hs hb hq hP r _ h3⟩
end
theorem ExpsIn.make {P : Nat -> Prop} {w : World} {b : Nat} : ∀ (l : List Exp) (off : Nat), (∀ k (h : k < l.length), ∃ cs, (∀ j u, cs[j]? = some u -> w.cell? ⟨b, off + k * 3 + j, none⟩ = some u) /\ ExpIn P w l[k] cs) -> ExpsIn P w b off l
 | [], _, _ => by simp only [ExpsIn]
 | t :: r, off, h => by
  simp only [ExpsIn]; constructor
  ·obtain ⟨cs, h1, h2⟩ := h 0 (by simp)
   exact ⟨cs, fun j u hu => by have := h1 j u hu; simpa using this, by simpa using h2⟩
  ·refine ExpsIn.make r (off + 3) (fun k hk => ?_)
   obtain ⟨cs, h1, h2⟩ := h (k + 1) (by simp; omega); refine ⟨cs, fun j u hu => ?_, by simpa using h2⟩; rw [<- h1 j u hu]
   congr 2
   omega
theorem ExpIn.below {P : Nat -> Prop} {w w' : World} (hb : Below w.heap.size w w') (t : Exp) (cs : List Value) (h : ExpIn P w t cs) : ExpIn P w' t cs :=
 ExpIn.move hb.size (fun k _ hk => hb.block k hk) (fun _ h _ => h) t cs h
theorem ExpIn.len3 {P : Nat -> Prop} {w : World} {t : Exp} {cs : List Value} (h : ExpIn P w t cs) : cs.length = 3 := by
 cases t
 simp only [ExpIn] at h; obtain ⟨a, cap, rfl, -⟩ := h; rfl
theorem ExpIn.shape {P : Nat -> Prop} {w : World} {t : Exp} {cs : List Value} (h : ExpIn P w t cs) : ∃ op text sa sn sc, cs = [.string op, .string text, .slice sa sn sc] := (ExpIn.at _ _ h).shape
theorem ExpIn.leaf (P : Nat -> Prop) (w : World) (o t : ByteArray) : ExpIn P w (.mk o t []) [.string o, .string t, .slice none 0 0] := by
 simp only [ExpIn]; exact ⟨none, 0, rfl, Nat.le_refl _, Nat.zero_le _, fun _ => rfl, fun x hx => by cases hx⟩
theorem ExpIn.node {base : Nat} {w : World} {o t : ByteArray} {kids : List Exp} {b cap : Nat} (hb : base <= b) (hlt : b < w.heap.size) (hf : ∀ off, w.frozen? ⟨b, off, none⟩ = false) (hc : kids.length <= cap) (hm : cap <= maxLen)
  (h : ∀ k (h : k < kids.length), ∃ cs, (∀ j u, cs[j]? = some u -> w.cell? ⟨b, k * 3 + j, none⟩ = some u) /\ ExpIn (fun k => base <= k) w kids[k] cs) :
  ExpIn (fun k => base <= k) w (.mk o t kids) [.string o, .string t, .slice (some ⟨b, 0, none⟩) kids.length cap] := by
 simp only [ExpIn]; refine ⟨some ⟨b, 0, none⟩, cap, rfl, hc, hm, (fun h => by cases h), fun x hx _ => ?_⟩; cases hx
 exact ⟨rfl, ⟨hlt, hb, hf⟩, ExpsIn.make kids 0 (fun k hk => by
  obtain ⟨cs, h1, h2⟩ := h k hk
  exact ⟨cs, fun j u hu => by rw [Nat.zero_add]; exact h1 j u hu, h2⟩)⟩
end Go.Proofs.YtbcdaaobbebooaaGreatDoor
