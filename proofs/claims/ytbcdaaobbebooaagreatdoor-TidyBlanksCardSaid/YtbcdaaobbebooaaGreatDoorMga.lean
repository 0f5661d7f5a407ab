/- Texts of this claim, one behind the other: Kit, Box, Bse, NumA, NuG, NuH, UtfP, QuoP. -/
import Derived.WalkKit
import Derived.WalkSpells
import Derived.WalkLawsBesides
import Derived.Outline
import Derived.Lib.Hide
import Derived.Lib.SlBytesConst
import Derived.BigQuiet
import Derived.Deep.QuietTactic
import Derived.Deep.RegionWith
import Derived.Laws.AppendOwnNone
import Derived.Deep.DeepCutAuto
import Derived.StillTailTactics
import Derived.Deep.RegionHeld3
import Derived.Deep.CutBlock
import Derived.Deep.LoopGhost
import Derived.Laws.CopyOwn
import Derived.Deep.RegionLaw
import Derived.Test.YtbcdaaobbebooaaGreatDoorRows
import Derived.Lib.TrimByte
set_option linter.unusedSimpArgs false
set_option linter.unusedVariables false
namespace Go.Tab
set_option maxRecDepth 100000
set_option maxHeartbeats 20000000
open Go.RowKit
def RowOf {α : Type} (f : α -> Value) (w : World) (v : Value) (l : List α) : Prop :=
 ∃ a cap, v = .slice a l.length cap /\ l.length <= cap /\ cap <= maxLen /\ (a = none -> cap = 0) /\
  ∀ x, a = some x -> l ≠ [] -> x.spot = none /\ x.block < w.heap.size /\ ∀ j (h : j < l.length), w.cell? ⟨x.block, x.off + j, none⟩ = some (f l[j])
abbrev byteV (c : UInt8) : Value := .int .u8 (c.toNat : Int)
section
variable {α : Type} {f : α -> Value} {w w' : World} {v : Value} {l : List α}
theorem RowOf.nil : RowOf f w (.slice none 0 0) [] := ⟨none, 0, rfl, Nat.le_refl _, by decide, fun _ => rfl, fun x h => by cases h⟩
theorem RowOf.len (h : RowOf f w v l) : ∃ a cap, v = .slice a l.length cap /\ l.length <= cap /\ cap <= maxLen /\ (a = none -> cap = 0) := by
 obtain ⟨a, cap, h1, h2, h3, h4, _⟩ := h; exact ⟨a, cap, h1, h2, h3, h4⟩
theorem RowOf.at {a : Option Addr} {n cap : Nat} (h : RowOf f w (.slice a n cap) l) {j : Nat} (hj : j < l.length) :
  ∃ b off, a = some ⟨b, off, none⟩ /\ b < w.heap.size /\ ∀ j (h : j < l.length), w.cell? ⟨b, off + j, none⟩ = some (f l[j]) := by
 obtain ⟨a', cap', h1, h2, h3, h4, h5⟩ := h; cases h1
 cases a with
 | none => have := h4 rfl; omega
 | some x =>
  obtain ⟨b, off, sp⟩ := x; obtain ⟨rfl, h6, h7⟩ := h5 _ rfl (by intro h0; subst h0; simp at hj)
  exact ⟨b, off, rfl, h6, h7⟩
theorem RowOf.moved (h : RowOf f w v l) (hs : w.heap.size <= w'.heap.size) (hc : ∀ b off, b < w.heap.size -> v.ownBlock = some b -> w'.cell? ⟨b, off, none⟩ = w.cell? ⟨b, off, none⟩) : RowOf f w' v l := by
 obtain ⟨a, cap, rfl, h2, h3, h4, h5⟩ := h; refine ⟨a, cap, rfl, h2, h3, h4, fun x hx hl => ?_⟩; obtain ⟨h6, h7, h8⟩ := h5 x hx hl; subst hx; exact ⟨h6, by omega, fun j hj => by rw [hc _ _ h7 rfl]; exact h8 j hj⟩
theorem RowOf.below {B : Nat} (h : RowOf f w v l) (hb : Below B w w') (hB : w.heap.size <= B) : RowOf f w' v l :=
 h.moved hb.size fun b off hx _ => hb.cell (by show b < B; omega)
theorem RowOf.cells (h : RowOf f w v l) {a : Option Addr} {n cap : Nat} (hv : v = .slice a n cap) : n = l.length /\ n <= cap /\ cap <= maxLen /\ (a = none -> cap = 0) := by
 obtain ⟨a', cap', h1, h2, h3, h4, _⟩ := h; rw [hv] at h1; cases h1; exact ⟨rfl, h2, h3, h4⟩
theorem block_add (x : Addr) (n : Nat) : (x.add n).block = x.block := by
 unfold Addr.add; split <;> rfl
def OwnOf (f : α -> Value) (E : TypeId) (base : Nat) (w : World) (v : Value) (l : List α) : Prop := w.ownsRow base E 1 v l.length (l.map f)
variable {E : TypeId} {base : Nat}
theorem OwnOf.nil : OwnOf f E base w (.slice none 0 0) [] := World.ownsRow_nil _ _ _ _
theorem OwnOf.row (h : OwnOf f E base w v l) : RowOf f w v l := by
 have hlt := h.lt; obtain ⟨h1, h2⟩ := h; rcases h2 with ⟨rfl, h3⟩ | ⟨g, cap, cur, rfl, hb, hg, h3, h4, h5, h6⟩
 ·have : l = [] := List.eq_nil_of_length_eq_zero h3
  subst this; exact RowOf.nil
 ·refine ⟨_, cap, rfl, h3, h4, fun h => by simp at h, fun x hx _ => ?_⟩
  cases hx
  refine ⟨rfl, (hlt g rfl).2, fun j hj => ?_⟩; rw [cell_of_row w g _ cur E (0, 0) hg]; have h7 : (cur.toList.take (l.length * 1))[0 + j]? = (l.map f)[0 + j]? := by rw [h6]
  rw [List.getElem?_take, if_pos (by omega)] at h7
  simpa [hj] using h7
theorem OwnOf.alloc (h : OwnOf f E base w v l) (o : Obj) : OwnOf f E base (w.alloc o) v l := World.ownsRow.alloc h o
theorem OwnOf.drew (h : OwnOf f E base w v l) : OwnOf f E base w.drew v l := h
theorem OwnOf.drewN (h : OwnOf f E base w v l) (n : Nat) : OwnOf f E base (w.drewN n) v l := h
theorem OwnOf.kept {row : Option Nat} (h : OwnOf f E base w v l) (hg : w.grownBy w' row) (hne : v.ownBlock = none \/ v.ownBlock ≠ row) : OwnOf f E base w' v l := World.ownsRow.kept h hg hne
theorem OwnOf.moved (h : OwnOf f E base w v l) (hc : ∀ k, v.ownBlock = some k -> w'.heap[k]? = w.heap[k]?) : OwnOf f E base w' v l := by
 obtain ⟨h1, h2⟩ := h; refine ⟨h1, ?_⟩; rcases h2 with h2 | ⟨g, cap, cur, rfl, hb, hg, r⟩
 ·exact .inl h2
 ·exact .inr ⟨g, cap, cur, rfl, hb, by rw [hc g rfl]; exact hg, r⟩
theorem OwnOf.below {B : Nat} (h : OwnOf f E base w v l) (hb : Below B w w') (hB : w.heap.size <= B) : OwnOf f E base w' v l :=
 h.moved fun k hk => hb.block k (Nat.lt_of_lt_of_le (World.ownsRow.lt h k hk).2 hB)
theorem OwnOf.cellAt {g n cap : Nat} (h : OwnOf f E base w (.slice (some ⟨g, 0, none⟩) n cap) l) (j : Nat) (hj : j < l.length) : w.cell? ⟨g, j, none⟩ = some (f l[j]) := by
 obtain rfl := (h.row.cells rfl).1; rw [World.ownsRow.cellAt h j (by omega)]
 simp [hj]
theorem OwnOf.setOther (h : OwnOf f E base w v l) (x : Addr) (u : Value) (hne : v.ownBlock ≠ some x.block) : OwnOf f E base (w.setCell x u) v l :=
 h.moved fun k hk => Below.heap_setCell _ _ _ _ (by intro e; subst e; exact hne hk)
theorem OwnOf.lit (l : List α) (hb : base <= w.heap.size) (hm : l.length <= maxLen) : OwnOf f E base (w.alloc (.cells (l.map f).toArray E)) (.slice (some ⟨w.heap.size, 0, none⟩) l.length l.length) l := by
 unfold OwnOf; have h := World.ownsRow_lit (base := base) (e := E) (size := 1) w (l.map f).toArray l.length hb hm (by simp)
 simpa using h
end
theorem grown_below {w w' : World} {row : Option Nat} {B : Nat} (hg : w.grownBy w' row) (hB : B <= w.heap.size) (hr : ∀ k, row = some k -> B <= k) : Below B w w' :=
 (Below.refl B w).grown hg hB hr
structure Under (w0 : World) where
 w : World
 below : Below w0.heap.size w0 w
instance (w0 : World) : Nonempty (Under w0) := ⟨⟨w0, Below.refl _ _⟩⟩
theorem below_drewN {B : Nat} {w w' : World} (h : Below B w w') (n : Nat) : Below B w (w'.drewN n) := h.trans ⟨rfl, rfl, rfl, Nat.le_refl _, fun _ _ => rfl⟩
theorem below_draws (B : Nat) (w : World) (n : Nat) : Below B w (w.drewN n) := ⟨rfl, rfl, rfl, Nat.le_refl _, fun _ _ => rfl⟩
def Stop (p : Prop) : Prop := p
theorem Stop.out {p : Prop} (h : p) : Stop p := h
section
variable {P : Program} {ops : Array Oper} {Q : Exit -> Act -> World -> Prop} {d : Option Tmp} {ty : TypeId} {pos : String} {aft : Array Edge} {g : Option (Nat × Bool)} {rest : List Oper} {a : Act} {w : World}
theorem stop_append {xs : Array Operand} {ts : Array TypeId} (h : Stop (wpList P ops Q (⟨d, .call ⟨.builtin .append, xs, ts⟩, ty, pos, aft, g⟩ :: rest) a w)) : wpList P ops Q (⟨d, .call ⟨.builtin .append, xs, ts⟩, ty, pos, aft, g⟩ :: rest) a w := h
theorem stop_copy {xs : Array Operand} {ts : Array TypeId} (h : Stop (wpList P ops Q (⟨d, .call ⟨.builtin .copy, xs, ts⟩, ty, pos, aft, g⟩ :: rest) a w)) : wpList P ops Q (⟨d, .call ⟨.builtin .copy, xs, ts⟩, ty, pos, aft, g⟩ :: rest) a w := h
theorem stop_make {t : TypeId} {x y : Operand} (h : Stop (wpList P ops Q (⟨d, .makeSlice t x y, ty, pos, aft, g⟩ :: rest) a w)) : wpList P ops Q (⟨d, .makeSlice t x y, ty, pos, aft, g⟩ :: rest) a w := h
theorem stop_slice {t : TypeId} {x : Operand} {lo hi mx : Option Operand} (h : Stop (wpList P ops Q (⟨d, .slice t x lo hi mx, ty, pos, aft, g⟩ :: rest) a w)) : wpList P ops Q (⟨d, .slice t x lo hi mx, ty, pos, aft, g⟩ :: rest) a w := h
theorem stop_store {t : TypeId} {x y : Operand} (h : Stop (wpList P ops Q (⟨d, .store t x y, ty, pos, aft, g⟩ :: rest) a w)) : wpList P ops Q (⟨d, .store t x y, ty, pos, aft, g⟩ :: rest) a w := h
end
section
variable {α : Type} {f : α -> Value} {P : Program} {w : World} {ops : Array Oper} {rest : List Oper} {o : Oper} {a : Act} {Q : Exit -> Act -> World -> Prop}
theorem wpList_want (hw : Region.wanted o (yielded ops a.tmps) = true) (h : ∀ K : Act -> World -> Prop, (∀ a w, wpList P ops Q rest a w -> K a w) -> o.wp P a w K Q) : wpList P ops Q (o :: rest) a w :=
 wpList_step fun K hK => by rw [if_pos hw]; exact h K hK
theorem wp_append_row {K : Act -> World -> Prop} (s x : Operand) (t : TypeId)
  (ho : o.op = .call { callee := .builtin .append, args := #[s, x], argTypes := #[t, t] })
  (base : Nat) (e : TypeId) (bytes : Nat) (z : Value) (ht : P.underlying t = some (.slice e)) (hi : (P.info? e).map (fun i => (i.zero, i.size, i.bytes)) = some (some z, 1, bytes)) (hzs : z.cells.size = 1)
  (hf : ∀ x, (f x).oneCell' = true)
  (l l2 : List α) (hown : OwnOf f e base w (a.eval s) l) (hrow : RowOf f w (a.eval x) l2)
  (hm : l.length + l2.length <= maxLen) (hby : (l.length + l2.length) * bytes <= 140737488355328) (hbase : base <= w.heap.size) (w0 : World) (hb : Below base w0 w)
  (hK : ∀ v' w', OwnOf f e base w' v' (l ++ l2) -> Below base w0 w' -> w.grownBy w' (a.eval s).ownBlock -> K (a.put o.dst v') w') : o.wp P a w K Q := by
 obtain ⟨i, hi1, hi2, hi3, hi4⟩ := info_parts hi; obtain ⟨ao, cap, hv, h2, h3, h4, h5⟩ := hrow
 by_cases hl2 : l2 = []
 ·subst hl2
  cases ao with
  | none =>
   have hc := h4 rfl; subst hc; have hrun := run_append_owned_none (P := P) (w := w) base t o.type e i 1 ht hi1 (a.eval s) l.length (l.map f) hown; unfold Oper.wp; simp [execOp, ho, resolve, invoke, builtin, hv, hrun, Result.andThen]
   exact hK _ _ (by simpa using hown) hb ⟨rfl, rfl, rfl, Nat.le_refl _, fun _ _ _ => rfl⟩
  | some ad =>
   refine wp_append_own w s x t ho base e i z 1 bytes ht hi1 hi2 hi3 hi4 hzs (by decide) (a.eval s) l.length (l.map f) rfl hown ad 0 cap [] (by simpa using hv) (by simp) (by simp) (by simp) hm hby hbase ?_
   intro v' w' hown' hg _; exact hK v' w' (by unfold OwnOf; simpa using hown') (hb.trans (grown_below hg hbase (fun k hk => (World.ownsRow.lt hown k hk).1))) hg
 cases ao with
 | none =>
  have hc := h4 rfl; subst hc; exact absurd (List.eq_nil_of_length_eq_zero (by omega)) hl2
 | some ad =>
  obtain ⟨b, off, sp⟩ := ad; obtain ⟨g1, g2, g3⟩ := h5 _ rfl hl2; simp only at g1 g2 g3; subst g1; refine wp_append_own w s x t ho base e i z 1 bytes ht hi1 hi2 hi3 hi4 hzs (by decide) (a.eval s) l.length (l.map f) rfl hown ⟨b, off, none⟩ l2.length cap (l2.map f) hv (by simp) ?_ ?_ hm hby hbase ?_
  ·intro j u hu
   rw [Addr.add_lit]; simp only [List.getElem?_map, Option.map_eq_some_iff] at hu; obtain ⟨y, hy, rfl⟩ := hu; obtain ⟨hj, rfl⟩ := List.getElem?_eq_some_iff.1 hy; exact g3 j hj
  ·intro u hu
   obtain ⟨y, _, rfl⟩ := List.mem_map.1 hu; exact hf y
  ·intro v' w' hown' hg _
   exact hK v' w' (by unfold OwnOf; simpa using hown') (hb.trans (grown_below hg hbase (fun k hk => (World.ownsRow.lt hown k hk).1))) hg
theorem wpList_append_row (hgd : Region.wanted o (yielded ops a.tmps) = true) (s x : Operand) (t : TypeId)
  (ho : o.op = .call { callee := .builtin .append, args := #[s, x], argTypes := #[t, t] })
  (base : Nat) (e : TypeId) (bytes : Nat) (z : Value) (ht : P.underlying t = some (.slice e)) (hi : (P.info? e).map (fun i => (i.zero, i.size, i.bytes)) = some (some z, 1, bytes)) (hzs : z.cells.size = 1)
  (hf : ∀ x, (f x).oneCell' = true)
  (l l2 : List α) (hown : OwnOf f e base w (a.eval s) l) (hrow : RowOf f w (a.eval x) l2)
  (hm : l.length + l2.length <= maxLen) (hby : (l.length + l2.length) * bytes <= 140737488355328) (hbase : base <= w.heap.size) (w0 : World) (hb : Below base w0 w)
  (hK : ∀ v' w', OwnOf f e base w' v' (l ++ l2) -> Below base w0 w' -> w.grownBy w' (a.eval s).ownBlock -> wpList P ops Q rest (a.put o.dst v') w') : wpList P ops Q (o :: rest) a w :=
 wpList_want hgd fun _ hK' => wp_append_row s x t ho base e bytes z ht hi hzs hf l l2 hown hrow hm hby hbase w0 hb fun v' w' h1 h2 h3 => hK' _ _ (hK v' w' h1 h2 h3)
theorem run_sizeOf_one {e : TypeId} (h : (P.info? e).map (fun i => i.size) = some 1) (w : World) : (sizeOf e).run P w = .ok 1 w := by
 obtain ⟨i, hi, hs⟩ := Option.map_eq_some_iff.1 h; simp [sizeOf, typeInfo, hi, hs]
theorem run_storeVar_row (w : World) (g : Nat) (t ty : TypeId) (cur cs : Array Value) (hg : w.heap[g]? = some (.cells cur t (0, 0))) (hsz : cur.size = cs.size)
  (hi : (P.info? ty).map (·.size) = some cs.size) (h1 : ∀ v ∈ cs.toList, v.oneCell' = true) :
  (storeVar ty ⟨g, 0, none⟩ (.agg cs)).run P w = .ok () (w.setRow g cs) := by
 have hst := run_storeCells_at P g 0 t cs.toList 0 cur w hg (by simp; omega) h1
 cases hq : P.info? ty with
 | none => simp [hq] at hi
 | some i =>
  have hs : i.size = cs.size := by simpa [hq] using hi
  have e : (cur.toList.take (0 + 0) ++ cs.toList ++ cur.toList.drop (0 + 0 + cs.toList.length)).toArray = cs := by
   rw [List.drop_of_length_le (by simp; omega)]; simp
  rw [e] at hst; simp [storeVar, Value.cells, Sem.run_bind, sizeOf, typeInfo, hq, hs, hst]
theorem wpList_store_all (hgd : Region.wanted o (yielded ops a.tmps) = true) (ty : TypeId) (x v : Operand) (ho : o.op = .store ty x v) (hdst : o.dst = none)
  (g : Nat) (hx : a.eval x = .pointer (some ⟨g, 0, none⟩)) (cs : Array Value) (hv : a.eval v = .agg cs) (t : TypeId) (cur : Array Value) (hg : w.heap[g]? = some (.cells cur t (0, 0))) (hsz : cur.size = cs.size)
  (hi : (P.info? ty).map (·.size) = some cs.size) (h1 : ∀ v ∈ cs.toList, v.oneCell' = true)
  (hK : wpList P ops Q rest a (w.setRow g cs)) : wpList P ops Q (o :: rest) a w := by
 refine wpList_want hgd fun K hK' => ?_; have hrun := run_storeVar_row (P := P) w g t ty cur cs hg hsz hi h1; unfold Oper.wp execOp; simp only [ho, hx, hv, Instr.storeAt, Instr.sureAddr, Sem.run_bind, Sem.run_pure, Result.andThen_ok, hrun, Oper.upon_skip, hdst]; exact hK' _ _ hK
theorem run_index_cell (w : World) (t e : TypeId) (n : Nat) (cs : Array Value) (k : IntKind) (i : Int) (j : Nat) (v : Value) (ht : P.underlying t = some (.array n e)) (hs : (P.info? e).map (fun i => i.size) = some 1)
  (he : (match P.underlying e with | some (.struct _) => false | some (.array _ _) => false | none => false | _ => true) = true) (hi : i = j) (hj : j < n) (hv : cs[j]? = some v) :
  (Instr.index t (.agg cs) (.int k i)).run P w = .ok v w := by
 subst hi
 have h1 : (isAgg e).run P w = .ok false w := by
  unfold isAgg
  cases hu : P.underlying e with
  | none => simp [hu] at he
  | some d =>
   rw [Sem.run_bind, run_underlying hu w]; cases d <;> simp_all
 simp [Instr.index, asIntOf, run_underlying ht, run_sizeOf_one hs, part, h1, Sem.run_bind, hv]
 intro h; omega
end
end Go.Tab
namespace Go.Proofs.YtbcdaaobbebooaaGreatDoor
set_option maxRecDepth 100000
set_option maxHeartbeats 20000000
open Go.RowKit Go.Tab
def Cells (w : World) (g : Nat) (cs : Array Value) (t : TypeId) : Prop := w.heap[g]? = some (.cells cs t (0, 0))
section
variable {w w' : World} {g : Nat} {cs : Array Value} {t : TypeId}
theorem Cells.lt (h : Cells w g cs t) : g < w.heap.size := (Array.getElem?_eq_some_iff.1 h).1
theorem Cells.cell (h : Cells w g cs t) (j : Nat) (v : Value) (hj : cs[j]? = some v) : w.cell? ⟨g, j, none⟩ = some v := by
 rw [cell_of_row w g _ cs t (0, 0) h]; exact hj
theorem Cells.frozen (h : Cells w g cs t) (j : Nat) : w.frozen? ⟨g, j, none⟩ = false := by simp [World.frozen?, show w.heap[g]? = _ from h]
theorem Cells.kept {row : Option Nat} (h : Cells w g cs t) (hg : w.grownBy w' row) (hne : some g ≠ row) : Cells w' g cs t := (hg.block g h.lt hne).trans h
theorem Cells.below {B : Nat} (h : Cells w g cs t) (hb : Below B w w') (hB : g < B) : Cells w' g cs t := (hb.block g hB).trans h
theorem Cells.alloc (h : Cells w g cs t) (o : Obj) : Cells (w.alloc o) g cs t := h.kept (World.grownBy_alloc w o none) (by simp)
theorem Cells.drew (h : Cells w g cs t) : Cells w.drew g cs t := h
theorem Cells.drewN (h : Cells w g cs t) (n : Nat) : Cells (w.drewN n) g cs t := h
theorem Cells.set (h : Cells w g cs t) (j : Nat) (hj : j < cs.size) (v : Value) : Cells (w.setCell ⟨g, j, none⟩ v) g (cs.set j v hj) t := by
 obtain ⟨hlt, hk⟩ := Array.getElem?_eq_some_iff.1 h; show (w.heap.modify g _)[g]? = _; rw [Array.getElem?_eq_getElem (by rw [Array.size_modify]; exact hlt), Array.getElem_modify_self, hk]
 simp [Array.setIfInBounds, hj]
theorem Cells.new (w : World) (cs : Array Value) (t : TypeId) : Cells (w.alloc (.cells cs t)) w.heap.size cs t := by
 show (w.heap.push _)[w.heap.size]? = _; simp
theorem Cells.shape (h : Cells w g cs t) : w.shape? g = some (t, cs.size) := by simp [World.shape?, show w.heap[g]? = _ from h]
theorem Cells.setOther (h : Cells w g cs t) (x : Addr) (u : Value) (hne : x.block ≠ g) : Cells (w.setCell x u) g cs t :=
 (Below.heap_setCell _ _ _ _ (fun e => hne e.symm)).trans h
end
theorem grownBy_setAt (W : World) (b j : Nat) (v : Value) : W.grownBy (W.setCell ⟨b, j, none⟩ v) (some b) :=
 ⟨rfl, rfl, rfl, by simp [World.setCell], fun k _ hk => Below.heap_setCell _ _ _ k (fun e => hk (by rw [e]))⟩
theorem _root_.Go.Tab.RowOf.shape {α : Type} {f : α -> Value} {w : World} {v : Value} {l : List α} (h : RowOf f w v l) : ∃ a n cap, v = .slice a n cap /\ n = l.length := by
 obtain ⟨a, cap, h1, _⟩ := h; exact ⟨a, _, cap, h1, rfl⟩
theorem own_ne_box {α : Type} {f : α -> Value} {E : TypeId} {base : Nat} {w : World} {v : Value} {l : List α} {g : Nat} {cs : Array Value} {t : TypeId} (h : OwnOf f E base w v l) (hc : Cells w g cs t) (ht : t ≠ E) : v.ownBlock ≠ some g := by
 rcases h.2 with ⟨rfl, _⟩ | ⟨b, cap, cur, rfl, _, hg, _⟩
 ·simp [Value.ownBlock]
 ·intro he
  simp only [Value.ownBlock, Option.some.injEq] at he; subst he; have hc' : w.heap[b]? = some (.cells cs t (0, 0)) := hc; rw [hg] at hc'; simp only [Option.some.injEq, Obj.cells.injEq] at hc'; exact ht hc'.2.1.symm
def Beside (E : TypeId) (g : Nat) (w w' : World) : Prop :=
 w.heap.size <= w'.heap.size /\ ∀ k o, k ≠ g -> w.heap[k]? = some o -> (∀ cs fr, o ≠ .cells cs E fr) -> w'.heap[k]? = some o
theorem Beside.refl {E : TypeId} {g : Nat} {w : World} : Beside E g w w := ⟨Nat.le_refl _, fun _ _ _ h _ => h⟩
theorem Beside.trans {E : TypeId} {g : Nat} {w w' w'' : World} (h : Beside E g w w') (h2 : Beside E g w' w'') : Beside E g w w'' :=
 ⟨Nat.le_trans h.1 h2.1, fun k o hk ho hn => h2.2 k o hk (h.2 k o hk ho hn) hn⟩
theorem Beside.alloc {E : TypeId} {g : Nat} {w w' : World} (h : Beside E g w w') (o : Obj) : Beside E g w (w'.alloc o) :=
 h.trans ⟨by simp, fun k o' _ ho _ => ((World.grownBy_alloc w' o none).block k (Array.getElem?_eq_some_iff.1 ho).1 (by simp)).trans ho⟩
theorem Beside.setCell {E : TypeId} {g : Nat} {w w' : World} (h : Beside E g w w') (j : Nat) (v : Value) : Beside E g w (w'.setCell ⟨g, j, none⟩ v) :=
 h.trans ⟨by simp [World.setCell], fun k o' hk ho _ => by rw [Below.heap_setCell _ _ _ _ hk]; exact ho⟩
theorem Beside.grown {E : TypeId} {g : Nat} {w w' w'' : World} {row : Option Nat} (h : Beside E g w w') (hg : w'.grownBy w'' row) (hr : ∀ k, row = some k -> k = g \/ ∃ cs fr, w'.heap[k]? = some (.cells cs E fr)) : Beside E g w w'' :=
 h.trans ⟨hg.size, fun k o hk ho hn => by
  refine (hg.block k (Array.getElem?_eq_some_iff.1 ho).1 ?_).trans ho; intro e; rcases hr k e.symm with rfl | ⟨cs, fr, hc⟩
  ·exact hk rfl
  ·rw [ho] at hc; cases hc; exact hn _ _ rfl⟩
theorem Beside.cells {E : TypeId} {g : Nat} {w w' : World} (h : Beside E g w w') {k : Nat} {cs : Array Value} {t : TypeId} (hc : Cells w k cs t) (hk : k ≠ g) (ht : t ≠ E) : Cells w' k cs t :=
 h.2 k _ hk hc (fun cs' fr e => by cases e; exact ht rfl)
theorem own_is_row {α : Type} {f : α -> Value} {E : TypeId} {base : Nat} {w : World} {v : Value} {l : List α} (h : OwnOf f E base w v l) : ∀ k, v.ownBlock = some k -> ∃ cs fr, w.heap[k]? = some (.cells cs E fr) := by
 intro k hk; rcases h.2 with ⟨rfl, _⟩ | ⟨b, cap, cur, rfl, _, hg, _⟩
 ·simp [Value.ownBlock] at hk
 ·simp only [Value.ownBlock, Option.some.injEq] at hk
  subst hk; exact ⟨_, _, hg⟩
def bs (s : ByteArray) : List Nat := s.data.toList.map UInt8.toNat
theorem bs_length (s : ByteArray) : (bs s).length = s.size := by
 unfold bs; rw [List.length_map, Array.length_toList]; rfl
theorem bs_lt {s : ByteArray} : ∀ x ∈ bs s, x < 256 := by
 intro x hx; obtain ⟨c, _, rfl⟩ := List.mem_map.1 hx; exact c.toNat_lt
theorem bs_get {s : ByteArray} {i : Nat} (h : i < s.size) : (s[i]'h).toNat = (bs s)[i]'(by rw [bs_length]; exact h) := by
 simp [bs]; rfl
theorem bs_at {s : ByteArray} {i : Nat} {l : List Nat} (h : (bs s).drop i = l) {j : Nat} (hj : j < l.length) : ∃ h' : i + j < s.size, (s[i + j]'h').toNat = l[j] := by
 subst h; simp [bs_length] at hj
 refine ⟨by omega, ?_⟩
 rw [bs_get]; simp
theorem emp_of {d : ByteArray} (h0 : d.size = 0) : d = ⟨#[]⟩ := by
 cases d with
 | mk a => exact congrArg ByteArray.mk (Array.eq_empty_of_size_eq_zero h0)
theorem ne_emp {d : ByteArray} (h0 : ¬ d.size = 0) : d.toList.isEmpty = false := by
 rw [ByteArray.toList_eq, List.isEmpty_eq_false_iff]; intro h; exact h0 (by have := congrArg List.length h; simpa using this)
def strL (l : List UInt8) : ByteArray := ⟨l.toArray⟩
theorem strL_list (l : List UInt8) : (strL l).data.toList = l := rfl
theorem strL_of (s : ByteArray) : s = strL s.data.toList := by cases s; rfl
theorem str_ext {a b : ByteArray} (h : a.data.toList = b.data.toList) : a = b := by rw [strL_of a, strL_of b, h]
theorem size_list (s : ByteArray) : s.size = s.data.toList.length := by cases s; rfl
theorem size_strL (l : List UInt8) : (strL l).size = l.length := by rw [size_list]; rfl
theorem get_list {s : ByteArray} {i : Nat} (h : i < s.size) : s[i]'h = s.data.toList[i]'(by rw [<- size_list]; exact h) := rfl
theorem ext_list (s : ByteArray) (a b : Nat) : (s.extract a b).data.toList = (s.data.toList.take b).drop a := by
 rw [ByteArray.data_extract, Array.toList_extract, List.extract_eq_take_drop, List.drop_take]
theorem app_list (s t : ByteArray) : (s ++ t).data.toList = s.data.toList ++ t.data.toList := by rw [ByteArray.data_append, Array.toList_append]
theorem ret_bool {a b : Bool} (h : a = b) : Ending.returned (.bool a) = .returned (.bool b) := by rw [h]
theorem ret_num {k : IntKind} {a b : Int} (h : a = b) : Ending.returned (.int k a) = .returned (.int k b) := by rw [h]
def dig (c : Nat) : Bool := decide (48 <= c /\ c <= 57)
def numR (neg : Bool) (d : ByteArray) (e : Int) : Bool :=
 if d.size = 0 then !neg && decide (e = 0) else
 if 1000 < d.size \/ e < -10000 \/ 10000 < e then false else
 (bs d).all dig && (decide ((bs d)[0]? ≠ some 48) && decide ((bs d)[d.size - 1]? ≠ some 48))
theorem numR_empty {neg : Bool} {d : ByteArray} {e : Int} (h : d.size = 0) : numR neg d e = (!neg && decide (e = 0)) := by rw [numR, if_pos h]
theorem numR_great {neg : Bool} {d : ByteArray} {e : Int} (h : d.size ≠ 0) (h1 : 1000 < d.size \/ e < -10000 \/ 10000 < e) : numR neg d e = false := by rw [numR, if_neg h, if_pos h1]
theorem numR_not {neg : Bool} {d : ByteArray} {e : Int} {k : Nat} (h : k < d.size) (h1 : ¬ (48 <= (d[k]'h).toNat /\ (d[k]'h).toNat <= 57)) : numR neg d e = false := by
 have hm : (bs d)[k]'(by rw [bs_length]; exact h) ∈ bs d := List.getElem_mem _
 rw [<- bs_get h] at hm
 have h2 : (bs d).all dig = false := by
  rw [Bool.eq_false_iff]; intro h3; have := List.all_eq_true.1 h3 _ hm; simp only [dig, decide_eq_true_eq] at this; exact h1 this
 rw [numR, if_neg (by omega), h2]
 simp
theorem numR_yes {neg : Bool} {d : ByteArray} {e : Int} (h0 : 0 < d.size) (h1 : ¬ (1000 < d.size \/ e < -10000 \/ 10000 < e)) (h : ∀ k (hk : k < d.size), 48 <= (d[k]'hk).toNat /\ (d[k]'hk).toNat <= 57) :
  numR neg d e = (decide ((d[0]'h0).toNat ≠ 48) && decide ((d[d.size - 1]'(by omega)).toNat ≠ 48)) := by
 have h2 : (bs d).all dig = true := by
  rw [List.all_eq_true]; intro x hx; obtain ⟨k, hk, rfl⟩ := List.getElem_of_mem hx; rw [bs_length] at hk; rw [<- bs_get hk]
  simpa [dig] using h k hk
 rw [numR, if_neg (by omega), if_neg h1, h2, Bool.true_and, List.getElem?_eq_getElem (by rw [bs_length]; exact h0), List.getElem?_eq_getElem (by rw [bs_length]; omega), <- bs_get h0, <- bs_get (by omega)]
 simp
theorem numRight_any (neg : Bool) (d : ByteArray) (e : Int) (w : World) (hd : d.size <= 1048576) :
  Calls Tryz.prog 180 #[.agg #[.bool neg, .string d, .int .i64 e]] w fun r w' => r = .returned (.bool (numR neg d e)) /\ Below w.heap.size w w' := by
 have hx0 := Cells.new w #[.bool neg, .string d, .int .i64 e] 122; have hb0 : Below w.heap.size w (w.alloc (.cells #[.bool neg, .string d, .int .i64 e] 122)) := (Below.refl _ w).alloc (Nat.le_refl _) _
 by_cases h0 : d.size = 0
 ·have hR := Lib.hid (numR_empty (neg := neg) (e := e) h0)
  cases neg
  all_goals
   go_enter Tryz.func180, Tryz.ntmps180; go_wp2; go_ret; refine ⟨?_, hb0⟩; rw [hR.out]; first | rfl | (congr 2; by_cases he : e = 0 <;> simp [he])
 ·by_cases h1 : 1000 < d.size \/ e < -10000 \/ 10000 < e
  ·have hR := Lib.hid (numR_great (neg := neg) h0 h1)
   have h1' : 1000 < d.size \/ (d.size <= 1000 /\ e < -10000) \/ (d.size <= 1000 /\ -10000 <= e /\ 10000 < e) := by omega
   clear h1; have q0 : ((d.size : Int) == 0) = false := by rw [beq_eq_false_iff_ne]; omega
   have q1 : decide ((1000 : Int) < (d.size : Int)) = decide (1000 < d.size) := by congr 1; apply propext; omega
   have q2 : decide (e < -10000) = decide (e < -10000) := rfl; rcases h1' with h1 | ⟨h1, h2⟩ | ⟨h1, h2, h3⟩
   all_goals
    go_enter Tryz.func180, Tryz.ntmps180; go_wp2; go_ret; refine ⟨?_, hb0⟩; rw [hR.out]; try rfl
  ·have H1 := Lib.hid h1
   have h2 : d.size <= 1000 /\ -10000 <= e /\ e <= 10000 := by omega
   clear h1; have hp : 0 < d.size := by omega
   go_enter Tryz.func180, Tryz.ntmps180; go_wp2_with fail; go_loop [31] (fun i => ∃ k : Nat, k <= d.size /\ i = .int .i64 (k : Int) /\ ∀ j (hj : j < d.size), j < k -> 48 <= (d[j]'hj).toNat /\ (d[j]'hj).toNat <= 57) (fun i => d.size - (intOf i).toNat)
   case atStart => exact ⟨0, Nat.zero_le _, rfl, fun j _ h => by omega⟩
   case round =>
    obtain ⟨k, hk, rfl, hall⟩ := hrel; have HA := Lib.hid hall; clear hall; have hx0c0 := hx0.cell 0 _ rfl; have hx0f0 := hx0.frozen 0; have hx0c1 := hx0.cell 1 _ rfl; have hx0f1 := hx0.frozen 1; have hx0c2 := hx0.cell 2 _ rfl; have hx0f2 := hx0.frozen 2
    by_cases hkl : k < d.size
    ·by_cases hdg : 48 <= (d[k]'hkl).toNat /\ (d[k]'hkl).toNat <= 57
     ·have HA2 : Hid (∀ j (hj : j < d.size), j < k + 1 -> 48 <= (d[j]'hj).toNat /\ (d[j]'hj).toNat <= 57) := Lib.hid (fun j hj h => by
       by_cases hjk : j = k
       ·subst hjk; exact hdg
       ·exact HA.out j hj (by omega))
      clear HA; go_wp2; go_round
      case rel => exact ⟨k + 1, by omega, by go_num, HA2.out⟩
      case measure => simp [intOf]; omega
     ·have hR := Lib.hid (numR_not (neg := neg) (e := e) hkl hdg)
      have hdg' : (d[k]'hkl).toNat < 48 \/ (48 <= (d[k]'hkl).toNat /\ 57 < (d[k]'hkl).toNat) := by omega
      clear hdg; rcases hdg' with hdg | hdg
      all_goals
       go_wp2; go_ret; refine ⟨?_, hb0⟩; rw [hR.out]; try rfl
    ·obtain rfl : k = d.size := by omega
     have hR := Lib.hid (numR_yes (neg := neg) hp H1.out (fun j hj => HA.out j hj hj))
     by_cases hz : (d[0]'hp).toNat = 48
     ·go_wp2
      go_ret; refine ⟨?_, hb0⟩; rw [hR.out]; simp [hz]
     ·go_wp2
      go_ret; refine ⟨?_, hb0⟩; rw [hR.out]; have hz' : ¬ (((d[0]'hp).toNat : Int) = 48) := by omega
      by_cases hy : (d[d.size - 1]'(by omega)).toNat = 48
      ·simp [hz, hz', hy, bne]
      ·have hy' : ¬ (((d[d.size - 1]'(by omega)).toNat : Int) = 48) := by omega
       simp [hz, hz', hy, hy', bne]
end Go.Proofs.YtbcdaaobbebooaaGreatDoor
namespace Go.Proofs.YtbcdaaobbebooaaGreatDoor
set_option maxRecDepth 100000
set_option maxHeartbeats 20000000
abbrev Bs := List UInt8
def dg (c : UInt8) : Bool := dig c.toNat
def digs : Bs -> Nat
 | [] => 0
 | c :: l => if dg c then digs l + 1 else 0
theorem digs_le : ∀ l : Bs, digs l <= l.length
 | [] => Nat.le_refl _
 | c :: l => by
  have := digs_le l; simp only [digs, List.length_cons]; split <;> omega
theorem digs_app : ∀ (a b : Bs), a.all dg = true -> digs (a ++ b) = a.length + digs b
 | [], b, _ => by simp
 | c :: a, b, h => by
  rw [List.all_cons, Bool.and_eq_true] at h; rw [List.cons_append, digs, if_pos h.1, digs_app a b h.2, List.length_cons]; omega
theorem digs_take : ∀ l : Bs, (l.take (digs l)).all dg = true
 | [] => rfl
 | c :: l => by
  rw [digs]; split
  ·next h => rw [List.take_succ_cons, List.all_cons, h, digs_take l]; rfl
  ·rfl
theorem digs_none : ∀ (l : Bs), (∀ c, l.head? = some c -> dg c = false) -> digs l = 0
 | [], _ => rfl
 | c :: l, h => by rw [digs, h c rfl]; rfl
def fracS : Bs -> Nat
 | [] => 0
 | p :: l => if p = 46 /\ digs l ≠ 0 then 1 + digs l else 0
def sgS : Bs -> Nat
 | [] => 0
 | c :: _ => if c = 43 \/ c = 45 then 1 else 0
def powS : Bs -> Nat
 | [] => 0
 | m :: t => if (m = 101 \/ m = 69) /\ digs (t.drop (sgS t)) ≠ 0 then 1 + sgS t + digs (t.drop (sgS t)) else 0
def intS : Bs -> Nat
 | [] => 0
 | c :: l => if c = 48 then 1 else digs (c :: l)
def mnS : Bs -> Nat
 | [] => 0
 | c :: _ => if c = 45 then 1 else 0
def tailS (l : Bs) : Nat := fracS l + powS (l.drop (fracS l))
def scanN (l : Bs) : Nat :=
 if intS (l.drop (mnS l)) = 0 then 0 else mnS l + intS (l.drop (mnS l)) + tailS (l.drop (mnS l + intS (l.drop (mnS l))))
def signN (c : UInt8) : Nat := if c = 45 then 0 else if c = 43 then 1 else if c = 48 then 2 else if 49 <= c.toNat /\ c.toNat <= 57 then 3 else if c = 46 then 4 else if c = 101 \/ c = 69 then 5 else 6
def stepsN : List Nat := [1, 9, 2, 3, 9, 9, 9,  9, 9, 2, 3, 9, 9, 9,  9, 9, 9, 9, 4, 6, 9,  9, 9, 3, 3, 4, 6, 9,  9, 9, 5, 5, 9, 9, 9,  9, 9, 5, 5, 9, 6, 9,  7, 7, 8, 8, 9, 9, 9,  9, 9, 8, 8, 9, 9, 9,  9, 9, 8, 8, 9, 9, 9]
def stepN (st sg : Nat) : Nat := stepsN.getD (7 * st + sg) 9
def wholeB (st : Nat) : Bool := st == 2 || (st == 3 || (st == 5 || st == 8))
def autoS : Nat -> Nat -> Nat -> Bs -> Nat
 | _, _, L, [] => L
 | st, i, L, c :: l => if stepN st (signN c) = 9 then L else autoS (stepN st (signN c)) (i + 1) (if wholeB (stepN st (signN c)) then i + 1 else L) l
inductive Sort6 (c : UInt8) : Prop
 | minus : c = 45 -> dg c = false -> signN c = 0 -> Sort6 c
 | plus : c = 43 -> dg c = false -> signN c = 1 -> Sort6 c
 | nought : c = 48 -> dg c = true -> signN c = 2 -> Sort6 c
 | digit : dg c = true -> c ≠ 48 -> c ≠ 45 -> c ≠ 43 -> c ≠ 46 -> c ≠ 101 -> c ≠ 69 -> signN c = 3 -> Sort6 c
 | point : c = 46 -> dg c = false -> signN c = 4 -> Sort6 c
 | mark : (c = 101 \/ c = 69) -> c ≠ 46 -> c ≠ 45 -> c ≠ 43 -> c ≠ 48 -> dg c = false -> signN c = 5 -> Sort6 c
 | other : c ≠ 45 -> c ≠ 43 -> c ≠ 48 -> dg c = false -> c ≠ 46 -> c ≠ 101 -> c ≠ 69 -> signN c = 6 -> Sort6 c
theorem sort6 (c : UInt8) : Sort6 c := by
 by_cases h1 : c = 45
 ·subst h1; exact .minus rfl rfl rfl
 by_cases h2 : c = 43
 ·subst h2; exact .plus rfl rfl rfl
 by_cases h3 : c = 48
 ·subst h3; exact .nought rfl rfl rfl
 by_cases h4 : 49 <= c.toNat /\ c.toNat <= 57
 ·refine .digit (by simp only [dg, dig, decide_eq_true_eq]; omega) h3 h1 h2 ?_ ?_ ?_ (by rw [signN, if_neg h1, if_neg h2, if_neg h3, if_pos h4]) <;> (rintro rfl; revert h4; decide)
 have hd : dg c = false := by
  rw [Bool.eq_false_iff]; intro h; simp only [dg, dig, decide_eq_true_eq] at h; have : c.toNat ≠ 48 := fun e => h3 (UInt8.toNat_inj.1 e); omega
 by_cases h5 : c = 46
 ·subst h5; exact .point rfl rfl rfl
 by_cases h6 : c = 101 \/ c = 69
 ·exact .mark h6 h5 h1 h2 h3 hd (by rw [signN, if_neg h1, if_neg h2, if_neg h3, if_neg h4, if_neg h5, if_pos h6])
 ·exact .other h1 h2 h3 hd h5 (fun h => h6 (.inl h)) (fun h => h6 (.inr h)) (by rw [signN, if_neg h1, if_neg h2, if_neg h3, if_neg h4, if_neg h5, if_neg h6])
theorem auto_cons (st i L : Nat) (c : UInt8) (l : Bs) : autoS st i L (c :: l) = if stepN st (signN c) = 9 then L else autoS (stepN st (signN c)) (i + 1) (if wholeB (stepN st (signN c)) then i + 1 else L) l := rfl
theorem auto8 : ∀ (l : Bs) (i : Nat), autoS 8 i i l = i + digs l
 | [], i => rfl
 | c :: l, i => by
  have ih := auto8 l (i + 1); rw [auto_cons, digs]; cases sort6 c <;> simp_all [stepN, stepsN, wholeB] <;> omega
theorem auto7 (l : Bs) (i L : Nat) : autoS 7 i L l = if digs l = 0 then L else i + digs l := by
 cases l with
 | nil => rfl
 | cons c l =>
  have ih := auto8 l (i + 1); rw [auto_cons, digs]; cases sort6 c <;> simp_all [stepN, stepsN, wholeB] <;> omega
theorem auto6 (m : UInt8) (l : Bs) (i : Nat) (hm : m = 101 \/ m = 69) : autoS 6 (i + 1) i l = i + powS (m :: l) := by
 rw [powS]; simp only [hm, true_and]
 cases l with
 | nil => rfl
 | cons c l =>
  have ih := auto8 l (i + 2); have i7 := auto7 l (i + 2) i; rw [auto_cons, sgS]
  cases sort6 c with
  | minus h h2 h3 => 
   subst h; simp [stepN, stepsN, wholeB, h3, i7]
   split <;> omega
  | plus h h2 h3 =>
   subst h; simp [stepN, stepsN, wholeB, h3, i7]
   split <;> omega
  | nought h h2 h3 =>
   subst h; simp [stepN, stepsN, wholeB, h3, ih, digs, h2]
   omega
  | digit h h1 h2 h4 h5 h6 h7 h3 =>
   simp [stepN, stepsN, wholeB, h3, ih, digs, h, h2, h4]
   omega
  | point h h2 h3 =>
   subst h; simp [stepN, stepsN, h3, digs, h2]
  | mark h h1 h2 h4 h5 h6 h3 =>
   simp [stepN, stepsN, h3, digs, h2, h4, h6]
  | other h h1 h2 h4 h5 h6 h7 h3 =>
   simp [stepN, stepsN, h3, digs, h, h1, h4]
theorem auto5 : ∀ (l : Bs) (i : Nat), autoS 5 i i l = i + digs l + powS (l.drop (digs l))
 | [], i => rfl
 | c :: l, i => by
  have ih := auto5 l (i + 1); have i6 := auto6 c l i; rw [auto_cons, digs]
  cases sort6 c with
  | minus h h2 h3 => subst h; simp [stepN, stepsN, h3, h2, powS]
  | plus h h2 h3 => subst h; simp [stepN, stepsN, h3, h2, powS]
  | nought h h2 h3 => subst h; simp [stepN, stepsN, wholeB, h3, h2, ih]; omega
  | digit h h1 h2 h4 h5 h6 h7 h3 => simp [stepN, stepsN, wholeB, h3, h, ih]; omega
  | point h h2 h3 => subst h; simp [stepN, stepsN, h3, h2, powS]
  | mark h h1 h2 h4 h5 h6 h3 => simp [stepN, stepsN, wholeB, h3, h6, i6 h]
  | other h h1 h2 h4 h5 h6 h7 h3 => simp [stepN, stepsN, h3, h4, powS, h6, h7]
theorem auto4 (l : Bs) (i : Nat) : autoS 4 (i + 1) i l = i + tailS (46 :: l) := by
 cases l with
 | nil => rfl
 | cons c l =>
  have ih := auto5 l (i + 2); rw [auto_cons, tailS, fracS, digs]; have hp : ∀ x, powS (46 :: x) = 0 := fun x => by simp [powS]
  cases sort6 c with
  | minus h h2 h3 => subst h; simp [stepN, stepsN, h3, h2, hp]
  | plus h h2 h3 => subst h; simp [stepN, stepsN, h3, h2, hp]
  | nought h h2 h3 => subst h; simp [stepN, stepsN, wholeB, h3, h2, ih, Nat.add_comm 1]; omega
  | digit h h1 h2 h4 h5 h6 h7 h3 => simp [stepN, stepsN, wholeB, h3, h, ih, Nat.add_comm 1]; omega
  | point h h2 h3 => subst h; simp [stepN, stepsN, h3, h2, hp]
  | mark h h1 h2 h4 h5 h6 h3 => simp [stepN, stepsN, h3, h6, hp]
  | other h h1 h2 h4 h5 h6 h7 h3 => simp [stepN, stepsN, h3, h4, hp]
theorem auto2 (l : Bs) (i : Nat) : autoS 2 i i l = i + tailS l := by
 cases l with
 | nil => rfl
 | cons c l =>
  have i4 := auto4 l i; have i6 := auto6 c l i; rw [auto_cons]
  cases sort6 c with
  | minus h h2 h3 => subst h; simp [stepN, stepsN, h3, tailS, fracS, powS]
  | plus h h2 h3 => subst h; simp [stepN, stepsN, h3, tailS, fracS, powS]
  | nought h h2 h3 => subst h; simp [stepN, stepsN, h3, tailS, fracS, powS]
  | digit h h1 h2 h4 h5 h6 h7 h3 => simp [stepN, stepsN, h3, tailS, fracS, powS, h5, h6, h7]
  | point h h2 h3 => subst h; simp [stepN, stepsN, wholeB, h3, i4]
  | mark h h1 h2 h4 h5 h6 h3 => simp [stepN, stepsN, wholeB, h3, i6 h, tailS, fracS, h1]
  | other h h1 h2 h4 h5 h6 h7 h3 => simp [stepN, stepsN, h3, tailS, fracS, powS, h5, h6, h7]
theorem auto3 : ∀ (l : Bs) (i : Nat), autoS 3 i i l = i + digs l + tailS (l.drop (digs l))
 | [], i => rfl
 | c :: l, i => by
  have ih := auto3 l (i + 1); have i4 := auto4 l i; have i6 := auto6 c l i; rw [auto_cons, digs]
  cases sort6 c with
  | minus h h2 h3 => subst h; simp [stepN, stepsN, h3, h2, tailS, fracS, powS]
  | plus h h2 h3 => subst h; simp [stepN, stepsN, h3, h2, tailS, fracS, powS]
  | nought h h2 h3 => subst h; simp [stepN, stepsN, wholeB, h3, h2, ih]; omega
  | digit h h1 h2 h4 h5 h6 h7 h3 => simp [stepN, stepsN, wholeB, h3, h, ih]; omega
  | point h h2 h3 => subst h; simp [stepN, stepsN, wholeB, h3, h2, i4]
  | mark h h1 h2 h4 h5 h6 h3 => simp [stepN, stepsN, wholeB, h3, i6 h, tailS, fracS, h1, h6]
  | other h h1 h2 h4 h5 h6 h7 h3 => simp [stepN, stepsN, h3, h4, tailS, fracS, powS, h5, h6, h7]
theorem auto1 (l : Bs) (i : Nat) : autoS 1 i 0 l = if intS l = 0 then 0 else i + intS l + tailS (l.drop (intS l)) := by
 cases l with
 | nil => rfl
 | cons c l =>
  have i2 := auto2 l (i + 1); have i3 := auto3 l (i + 1); rw [auto_cons, intS]
  cases sort6 c with
  | minus h h2 h3 => subst h; simp [stepN, stepsN, h3, h2, digs]
  | plus h h2 h3 => subst h; simp [stepN, stepsN, h3, h2, digs]
  | nought h h2 h3 => subst h; simp [stepN, stepsN, wholeB, h3, i2]
  | digit h h1 h2 h4 h5 h6 h7 h3 => simp [stepN, stepsN, wholeB, h3, h, i3, h1, digs]; omega
  | point h h2 h3 => subst h; simp [stepN, stepsN, h3, h2, digs]
  | mark h h1 h2 h4 h5 h6 h3 => simp [stepN, stepsN, h3, h5, h6, digs]
  | other h h1 h2 h4 h5 h6 h7 h3 => simp [stepN, stepsN, h3, h2, h4, digs]
theorem auto_scan (l : Bs) : autoS 0 0 0 l = scanN l := by
 cases l with
 | nil => rfl
 | cons c l =>
  have i1 := auto1 l 1; have i2 := auto2 l 1; have i3 := auto3 l 1; rw [auto_cons, scanN, mnS]
  cases sort6 c with
  | minus h h2 h3 => subst h; simp [stepN, stepsN, wholeB, h3, i1, Nat.add_comm 1, Nat.add_assoc]
  | plus h h2 h3 => subst h; simp [stepN, stepsN, h3, h2, intS, digs]
  | nought h h2 h3 => subst h; simp [stepN, stepsN, wholeB, h3, i2, intS]
  | digit h h1 h2 h4 h5 h6 h7 h3 => simp [stepN, stepsN, wholeB, h3, h, i3, h1, h2, digs, intS]; omega
  | point h h2 h3 => subst h; simp [stepN, stepsN, h3, h2, intS, digs]
  | mark h h1 h2 h4 h5 h6 h3 => simp [stepN, stepsN, h3, h5, h6, h2, intS, digs]
  | other h h1 h2 h4 h5 h6 h7 h3 => simp [stepN, stepsN, h3, h, h2, h4, intS, digs]
end Go.Proofs.YtbcdaaobbebooaaGreatDoor
namespace Go.Proofs.YtbcdaaobbebooaaGreatDoor
set_option maxRecDepth 100000
set_option maxHeartbeats 20000000
structure NumTxt (l : Bs) (neg : Bool) (ip fr mk sg pw : Bs) : Prop where
 eq : l = (if neg then [45] else []) ++ (ip ++ ((if fr = [] then [] else 46 :: fr) ++ (mk ++ (sg ++ pw))))
 dip : ip.all dg = true
 dfr : fr.all dg = true
 dpw : pw.all dg = true
 ip0 : ip ≠ []
 lead : ip.head? = some 48 -> ip.length = 1
 exp : (mk = [] /\ sg = [] /\ pw = []) \/ ((mk = [101] \/ mk = [69]) /\ (sg = [] \/ sg = [43] \/ sg = [45]) /\ pw ≠ [])
theorem all_head {l : Bs} (h : l.all dg = true) {c : UInt8} (hc : l.head? = some c) : dg c = true := by
 cases l with
 | nil => simp at hc
 | cons a l => simp at hc; subst hc; rw [List.all_cons, Bool.and_eq_true] at h; exact h.1
theorem dg_lt {c : UInt8} (h : dg c = true) : 48 <= c.toNat /\ c.toNat <= 57 := by simpa [dg, dig] using h
theorem dg_ne {c : UInt8} (h : dg c = true) {d : UInt8} (hd : dg d = false) : c ≠ d := by rintro rfl; rw [h] at hd; cases hd
theorem digs_all (l : Bs) (h : l.all dg = true) : digs l = l.length := by
 have := digs_app l [] h; rw [List.append_nil] at this; rw [this]; rfl
theorem len_pos {l : Bs} (h : l ≠ []) : l.length ≠ 0 := fun e => h (List.eq_nil_of_length_eq_zero e)
section
variable {l : Bs} {neg : Bool} {ip fr mk sg pw : Bs}
theorem NumTxt.pow (h : NumTxt l neg ip fr mk sg pw) : powS (mk ++ (sg ++ pw)) = (mk ++ (sg ++ pw)).length := by
 rcases h.exp with ⟨rfl, rfl, rfl⟩ | ⟨hm, hs, hp⟩
 ·rfl
 ·have hl : digs pw = pw.length := digs_all pw h.dpw
  have hl0 := len_pos hp
  have hh : sg = [] -> sgS pw = 0 := fun _ => by
   cases pw with
   | nil => exact absurd rfl hp
   | cons c p =>
    have hc := all_head h.dpw (c := c) rfl; rw [sgS, if_neg]; intro e; rcases e with rfl | rfl <;> revert hc <;> decide
  have hs2 : sgS (sg ++ pw) = sg.length /\ (sg ++ pw).drop (sgS (sg ++ pw)) = pw := by
   rcases hs with rfl | rfl | rfl
   ·rw [List.nil_append, hh rfl]; exact ⟨rfl, rfl⟩
   ·exact ⟨rfl, rfl⟩
   ·exact ⟨rfl, rfl⟩
  have hm2 : ∃ m, mk = [m] /\ (m = 101 \/ m = 69) := by rcases hm with rfl | rfl <;> simp
  obtain ⟨m, rfl, hm3⟩ := hm2; rw [List.singleton_append, powS, hs2.2, hl, if_pos ⟨hm3, hl0⟩, hs2.1, List.length_cons, List.length_append]; omega
theorem NumTxt.pow_head (h : NumTxt l neg ip fr mk sg pw) {c : UInt8} (hc : (mk ++ (sg ++ pw)).head? = some c) : dg c = false /\ c ≠ 46 := by
 rcases h.exp with ⟨rfl, rfl, rfl⟩ | ⟨hm, hs, hp⟩
 ·simp at hc
 ·rcases hm with rfl | rfl <;> (simp at hc; subst hc; decide)
theorem NumTxt.tail (h : NumTxt l neg ip fr mk sg pw) : tailS ((if fr = [] then [] else 46 :: fr) ++ (mk ++ (sg ++ pw))) = ((if fr = [] then [] else 46 :: fr) ++ (mk ++ (sg ++ pw))).length := by
 have hp := h.pow; have hh := fun c => h.pow_head (c := c); generalize mk ++ (sg ++ pw) = r at hp hh ⊢
 by_cases hf : fr = []
 ·rw [if_pos hf, List.nil_append, tailS]
  have : fracS r = 0 := by
   cases r with
   | nil => rfl
   | cons c r => rw [fracS, if_neg]; intro e; exact (hh c rfl).2 e.1
  rw [this, List.drop_zero, hp, Nat.zero_add]
 ·rw [if_neg hf, tailS, List.cons_append]
  have hd : digs (fr ++ r) = fr.length := by rw [digs_app _ _ h.dfr, digs_none r (fun c hc => (hh c hc).1)]; rfl
  have : fracS (46 :: (fr ++ r)) = 1 + fr.length := by
   rw [fracS, hd, if_pos ⟨rfl, len_pos hf⟩]
  rw [this, Nat.add_comm 1, List.drop_succ_cons, List.drop_left, hp, List.length_cons, List.length_append]; omega
theorem NumTxt.int (h : NumTxt l neg ip fr mk sg pw) : intS (ip ++ ((if fr = [] then [] else 46 :: fr) ++ (mk ++ (sg ++ pw)))) = ip.length := by
 have hr : ∀ c, ((if fr = [] then [] else 46 :: fr) ++ (mk ++ (sg ++ pw))).head? = some c -> dg c = false := by
  intro c hc
  by_cases hf : fr = []
  ·rw [if_pos hf, List.nil_append] at hc; exact (h.pow_head hc).1
  ·rw [if_neg hf] at hc; simp at hc; subst hc; decide
 generalize (if fr = [] then [] else 46 :: fr) ++ (mk ++ (sg ++ pw)) = r at hr; have hi := h.ip0; have hl := h.lead; have hd := h.dip; have hx : digs (ip ++ r) = ip.length := by rw [digs_app _ _ hd, digs_none r hr]; rfl
 cases ip with
 | nil => exact absurd rfl hi
 | cons c p =>
  rw [List.cons_append, intS]; split
  ·next e => subst e; exact (hl rfl).symm
  ·rw [<- List.cons_append, hx]
theorem NumTxt.mn (h : NumTxt l neg ip fr mk sg pw) : mnS l = (if neg then 1 else 0) /\ l.drop (mnS l) = ip ++ ((if fr = [] then [] else 46 :: fr) ++ (mk ++ (sg ++ pw))) := by
 have he := h.eq; have hi := h.ip0; have hd := h.dip; generalize (if fr = [] then [] else 46 :: fr) ++ (mk ++ (sg ++ pw)) = r at he
 cases neg with
 | true => subst he; exact ⟨rfl, rfl⟩
 | false =>
  subst he
  have : mnS (ip ++ r) = 0 := by
   cases ip with
   | nil => exact absurd rfl hi
   | cons c p =>
    have hc := all_head hd (c := c) rfl; rw [List.cons_append, mnS, if_neg]; rintro rfl
    revert hc; decide
  refine ⟨?_, ?_⟩
  ·simpa using this
  ·show (ip ++ r).drop (mnS (ip ++ r)) = _
   rw [this]; rfl
theorem NumTxt.scan (h : NumTxt l neg ip fr mk sg pw) : scanN l = l.length /\ l ≠ [] := by
 have hi := len_pos h.ip0; have hm := h.mn
 have hl : l.length = mnS l + (l.drop (mnS l)).length := by
  have := congrArg List.length h.eq; rw [hm.2, hm.1, this, List.length_append]; cases neg <;> rfl
 refine ⟨?_, fun e => by subst e; have := h.eq; cases neg <;> simp at this; exact h.ip0 this.1⟩
 rw [hm.2, List.length_append] at hl; rw [scanN, hm.2, h.int, if_neg hi, <- List.drop_drop, hm.2, List.drop_left, h.tail, hl]; omega
end
theorem pow_whole (l : Bs) (h : powS l = l.length) : ∃ mk sg pw, l = mk ++ (sg ++ pw) /\ pw.all dg = true /\ ((mk = [] /\ sg = [] /\ pw = []) \/ ((mk = [101] \/ mk = [69]) /\ (sg = [] \/ sg = [43] \/ sg = [45]) /\ pw ≠ [])) := by
 cases l with
 | nil => exact ⟨[], [], [], rfl, rfl, .inl ⟨rfl, rfl, rfl⟩⟩
 | cons m t =>
  rw [powS] at h; split at h
  ·next hc =>
   obtain ⟨hm, hd⟩ := hc; rw [List.length_cons] at h
   have hs : sgS t <= t.length := by
    cases t with
    | nil => exact Nat.le_refl _
    | cons c t => rw [sgS]; split <;> simp
   have hl : (t.drop (sgS t)).length = t.length - sgS t := by simp
   have hall : (t.drop (sgS t)).all dg = true := by
    have := digs_take (t.drop (sgS t)); rw [show digs (t.drop (sgS t)) = (t.drop (sgS t)).length by omega, List.take_length] at this
    exact this
   refine ⟨[m], t.take (sgS t), t.drop (sgS t), by rw [List.take_append_drop]; rfl, hall, .inr ⟨by rcases hm with rfl | rfl <;> simp, ?_, fun e => hd (by rw [e]; rfl)⟩⟩
   cases t with
   | nil => exact .inl rfl
   | cons c t =>
    rw [sgS]; split
    ·next hc => rcases hc with rfl | rfl <;> simp
    ·simp
  ·simp at h
theorem frac_whole (l : Bs) : ∃ fr, l.take (fracS l) = (if fr = [] then [] else 46 :: fr) /\ fr.all dg = true := by
 cases l with
 | nil => exact ⟨[], rfl, rfl⟩
 | cons p l =>
  rw [fracS]; split
  ·next h =>
   obtain ⟨rfl, hd⟩ := h
   have hne : l.take (digs l) ≠ [] := by
    intro e; have h1 := congrArg List.length e; have h2 := digs_le l; rw [List.length_take, Nat.min_eq_left h2] at h1; exact hd (by simpa using h1)
   exact ⟨l.take (digs l), by rw [if_neg hne, Nat.add_comm 1, List.take_succ_cons], digs_take l⟩
  ·exact ⟨[], rfl, rfl⟩
theorem parts_of_scan (l : Bs) (h : scanN l = l.length) (h0 : l ≠ []) : ∃ neg ip fr mk sg pw, NumTxt l neg ip fr mk sg pw := by
 rw [scanN] at h; have hl0 := len_pos h0; split at h
 ·omega
 ·next hi =>
  have hml : mnS l <= l.length := by
   cases l with
   | nil => exact Nat.le_refl _
   | cons c l => rw [mnS]; split <;> simp
  have hil : ∀ l : Bs, intS l <= l.length := by
   intro l
   cases l with
   | nil => exact Nat.le_refl _
   | cons c l => rw [intS]; split; (· simp); (· exact digs_le _)
  have hdl := hil (l.drop (mnS l)); rw [<- List.drop_drop] at h; have e1 : l = l.take (mnS l) ++ l.drop (mnS l) := (List.take_append_drop _ _).symm
  have e2 : l.take (mnS l) = (if decide (mnS l = 1) then [45] else []) := by
   cases l with
   | nil => rfl
   | cons c l =>
    rw [mnS]; split
    ·next e => subst e; rfl
    ·rfl
  have hlen : (l.drop (mnS l)).length = l.length - mnS l := by simp
  generalize l.drop (mnS l) = a at *; have e3 : a = a.take (intS a) ++ a.drop (intS a) := (List.take_append_drop _ _).symm; have hlen2 : (a.drop (intS a)).length = a.length - intS a := by simp
  have d3 : (a.take (intS a)).all dg = true /\ (a.take (intS a) ≠ []) /\ ((a.take (intS a)).head? = some 48 -> (a.take (intS a)).length = 1) := by
   cases a with
   | nil => exact absurd rfl hi
   | cons c a =>
    rw [intS] at hi ⊢; split
    ·next e => subst e; exact ⟨rfl, by simp, fun _ => rfl⟩
    ·next e =>
     rw [if_neg e] at hi; refine ⟨digs_take _, fun e2 => ?_, fun e2 => ?_⟩
     ·have h1 := congrArg List.length e2
      have h2 := digs_le (c :: a); rw [List.length_take, Nat.min_eq_left h2] at h1; exact hi (by simpa using h1)
     ·have : ∃ k, digs (c :: a) = k + 1 := ⟨digs (c :: a) - 1, by omega⟩
      obtain ⟨k, hk⟩ := this; rw [hk, List.take_succ_cons] at e2; simp at e2
      exact absurd e2 e
  generalize a.take (intS a) = ip at *; generalize a.drop (intS a) = b at *; have hb : tailS b = b.length := by omega
  rw [tailS] at hb; have e4 : b = b.take (fracS b) ++ b.drop (fracS b) := (List.take_append_drop _ _).symm; obtain ⟨fr, hf, hfd⟩ := frac_whole b
  have hfl : fracS b <= b.length := by
   cases b with
   | nil => exact Nat.le_refl _
   | cons c b => rw [fracS]; have := digs_le b; split <;> simp; omega
  have hlen3 : (b.drop (fracS b)).length = b.length - fracS b := by simp
  obtain ⟨mk, sg, pw, h5, h6, h7⟩ := pow_whole (b.drop (fracS b)) (by omega)
  refine ⟨decide (mnS l = 1), ip, fr, mk, sg, pw, ⟨?_, d3.1, hfd, h6, d3.2.1, d3.2.2, h7⟩⟩; rw [<- h5, <- hf, <- e4, <- e3, <- e2]; exact e1
def valD (ip fr : Bs) : Bs := Lib.trimLeftB (ip ++ fr) 48
def valC (ip fr : Bs) : Bs := Lib.trimRightB (valD ip fr) 48
def valE (ip fr : Bs) (p : Int) : Int := p - fr.length + ((valD ip fr).length - (valC ip fr).length : Nat)
def numVal (neg : Bool) (ip fr : Bs) (p : Int) : (Bool × Bs × Int) × Int :=
 if valC ip fr = [] then ((false, [], 0), 0) else if numR neg ⟨(valC ip fr).toArray⟩ (valE ip fr p) then ((neg, valC ip fr, valE ip fr p), 0) else ((false, [], 0), 4)
def addP (n : Nat) (c : UInt8) : Nat := min (n * 10 + (c.toNat - 48)) 1099511627776
def sgn (sg : Bs) (n : Nat) : Int := if sg = [45] then -(n : Int) else n
def powP (sg pw : Bs) : Int := sgn sg (pw.foldl addP 0)
theorem trimR_le (l : Bs) : (Lib.trimRightB l 48).length <= l.length := by
 rw [Lib.trimRightB, List.length_reverse]; have := (List.dropWhile_sublist (fun x => x == (48 : UInt8)) (l := l.reverse)).length_le
 simpa using this
theorem trimL_le (l : Bs) : (Lib.trimLeftB l 48).length <= l.length := (List.dropWhile_sublist _).length_le
end Go.Proofs.YtbcdaaobbebooaaGreatDoor
namespace Go.Proofs.YtbcdaaobbebooaaGreatDoor
set_option maxRecDepth 100000
set_option maxHeartbeats 20000000
def isSc (c : Nat) : Bool := decide (c <= 1114111) && (decide (c < 55296) || decide (57343 < c))
def wid (c : Nat) : Nat := if c < 128 then 1 else if c < 2048 then 2 else if c < 65536 then 3 else 4
def putN (c : Nat) : List Nat :=
 if c < 128 then [c] else if c < 2048 then [192 + c / 64, 128 + c % 64] else if c < 65536 then [224 + c / 4096, 128 + c / 64 % 64, 128 + c % 64]
 else [240 + c / 262144, 128 + c / 4096 % 64, 128 + c / 64 % 64, 128 + c % 64]
def putU (c : Nat) : List UInt8 := (putN c).map UInt8.ofNat
theorem putU_length (c : Nat) : (putU c).length = wid c := by
 unfold putU putN wid; split
 ·rfl
 split
 ·rfl
 split <;> rfl
def sizeOf8 (b : Nat) : Nat := if b < 128 then 1 else if b < 192 then 0 else if b < 224 then 2 else if b < 240 then 3 else if b < 248 then 4 else 0
def oneN : List Nat -> Nat × Nat
 | [] => (0, 0)
 | a :: r =>
  if a < 128 then (a, 1)
  else if a < 192 then (0, 0)
  else if a < 224 then match r with
   | b :: _ => if b / 64 = 2 /\ 128 <= (a - 192) * 64 + (b - 128) then ((a - 192) * 64 + (b - 128), 2) else (0, 0)
   | _ => (0, 0)
  else if a < 240 then match r with
   | b :: c :: _ => if b / 64 = 2 /\ c / 64 = 2 /\ 2048 <= ((a - 224) * 64 + (b - 128)) * 64 + (c - 128) /\ isSc (((a - 224) * 64 + (b - 128)) * 64 + (c - 128)) then (((a - 224) * 64 + (b - 128)) * 64 + (c - 128), 3) else (0, 0)
   | _ => (0, 0)
  else if a < 248 then match r with
   | b :: c :: d :: _ => if b / 64 = 2 /\ c / 64 = 2 /\ d / 64 = 2 /\ 65536 <= (((a - 240) * 64 + (b - 128)) * 64 + (c - 128)) * 64 + (d - 128) /\ isSc ((((a - 240) * 64 + (b - 128)) * 64 + (c - 128)) * 64 + (d - 128)) then ((((a - 240) * 64 + (b - 128)) * 64 + (c - 128)) * 64 + (d - 128), 4) else (0, 0)
   | _ => (0, 0)
  else (0, 0)
theorem isSc_iff {c : Nat} : isSc c = true ↔ c <= 1114111 /\ (c < 55296 \/ 57343 < c) := by simp [isSc]
theorem oneN_put {c : Nat} (h : isSc c = true) (more : List Nat) : oneN (putN c ++ more) = (c, wid c) := by
 rw [isSc_iff] at h; unfold putN wid
 by_cases h1 : c < 128
 ·simp [h1, oneN]
 by_cases h2 : c < 2048
 ·rw [if_neg h1, if_pos h2, if_neg h1, if_pos h2]
  simp only [List.cons_append, List.nil_append, oneN]; rw [if_neg (by omega), if_neg (by omega), if_pos (by omega), if_pos (by omega)]
  exact congrArg (fun x => (x, 2)) (by omega)
 by_cases h3 : c < 65536
 ·rw [if_neg h1, if_neg h2, if_pos h3, if_neg h1, if_neg h2, if_pos h3]
  simp only [List.cons_append, List.nil_append, oneN, isSc_iff]; rw [if_neg (by omega), if_neg (by omega), if_neg (by omega), if_pos (by omega), if_pos (by omega)]
  exact congrArg (fun x => (x, 3)) (by omega)
 ·rw [if_neg h1, if_neg h2, if_neg h3, if_neg h1, if_neg h2, if_neg h3]
  simp only [List.cons_append, List.nil_append, oneN, isSc_iff]; rw [if_neg (by omega), if_neg (by omega), if_neg (by omega), if_neg (by omega), if_pos (by omega), if_pos (by omega)]
  exact congrArg (fun x => (x, 4)) (by omega)
theorem put_oneN {l : List Nat} {c n : Nat} (hl : ∀ x ∈ l, x < 256) (h : oneN l = (c, n)) (hn : n ≠ 0) : isSc c = true /\ wid c = n /\ putN c = l.take n /\ n <= l.length := by
 match l with
 | [] => simp [oneN] at h; omega
 | a :: r =>
  have ha := hl a (by simp)
  simp only [oneN] at h
  by_cases h1 : a < 128
  ·rw [if_pos h1] at h
   simp only [Prod.mk.injEq] at h; obtain ⟨rfl, rfl⟩ := h; rw [isSc_iff]; simp [wid, putN, h1]; omega
  rw [if_neg h1] at h
  by_cases h2 : a < 192
  ·rw [if_pos h2] at h; simp at h; omega
  rw [if_neg h2] at h
  by_cases h3 : a < 224
  ·rw [if_pos h3] at h
   match r with
   | [] => simp at h; omega
   | b :: r' =>
    simp only at h
    by_cases hc : b / 64 = 2 /\ 128 <= (a - 192) * 64 + (b - 128)
    ·rw [if_pos hc] at h
     simp only [Prod.mk.injEq] at h; obtain ⟨h5, rfl⟩ := h; have hc2 : c < 2048 := by omega
     have hc1 : ¬ c < 128 := by omega
     rw [isSc_iff]; refine ⟨by omega, by simp [wid, hc1, hc2], ?_, by simp⟩
     simp only [putN, if_neg hc1, if_pos hc2, List.take_succ_cons, List.take_zero, List.cons.injEq, and_true]; omega
    ·rw [if_neg hc] at h; simp at h; omega
  rw [if_neg h3] at h
  by_cases h4 : a < 240
  ·rw [if_pos h4] at h
   match r with
   | [] => simp at h; omega
   | [b] => simp at h; omega
   | b :: d :: r' =>
    simp only [isSc_iff] at h
    by_cases hc : b / 64 = 2 /\ d / 64 = 2 /\ 2048 <= ((a - 224) * 64 + (b - 128)) * 64 + (d - 128) /\ ((a - 224) * 64 + (b - 128)) * 64 + (d - 128) <= 1114111 /\ (((a - 224) * 64 + (b - 128)) * 64 + (d - 128) < 55296 \/ 57343 < ((a - 224) * 64 + (b - 128)) * 64 + (d - 128))
    ·rw [if_pos hc] at h
     simp only [Prod.mk.injEq] at h; obtain ⟨h5, rfl⟩ := h; have hc3 : c < 65536 := by omega
     have hc2 : ¬ c < 2048 := by omega
     have hc1 : ¬ c < 128 := by omega
     rw [isSc_iff]; refine ⟨by omega, by simp [wid, hc1, hc2, hc3], ?_, by simp⟩
     simp only [putN, if_neg hc1, if_neg hc2, if_pos hc3, List.take_succ_cons, List.take_zero, List.cons.injEq, and_true]; omega
    ·rw [if_neg hc] at h; simp at h; omega
  rw [if_neg h4] at h
  by_cases h5 : a < 248
  ·rw [if_pos h5] at h
   match r with
   | [] => simp at h; omega
   | [b] => simp at h; omega
   | [b, d] => simp at h; omega
   | b :: d :: f :: r' =>
    simp only [isSc_iff] at h
    by_cases hc : b / 64 = 2 /\ d / 64 = 2 /\ f / 64 = 2 /\ 65536 <= (((a - 240) * 64 + (b - 128)) * 64 + (d - 128)) * 64 + (f - 128) /\ (((a - 240) * 64 + (b - 128)) * 64 + (d - 128)) * 64 + (f - 128) <= 1114111 /\ ((((a - 240) * 64 + (b - 128)) * 64 + (d - 128)) * 64 + (f - 128) < 55296 \/ 57343 < (((a - 240) * 64 + (b - 128)) * 64 + (d - 128)) * 64 + (f - 128))
    ·rw [if_pos hc] at h
     simp only [Prod.mk.injEq] at h; obtain ⟨h6, rfl⟩ := h; have hc3 : ¬ c < 65536 := by omega
     have hc2 : ¬ c < 2048 := by omega
     have hc1 : ¬ c < 128 := by omega
     rw [isSc_iff]; refine ⟨by omega, by simp [wid, hc1, hc2, hc3], ?_, by simp⟩
     simp only [putN, if_neg hc1, if_neg hc2, if_neg hc3, List.take_succ_cons, List.take_zero, List.cons.injEq, and_true]; omega
    ·rw [if_neg hc] at h; simp at h; omega
  ·rw [if_neg h5] at h; simp at h; omega
theorem putN_len (c : Nat) : (putN c).length = wid c := by rw [<- putU_length]; simp [putU]
theorem wid_pos (c : Nat) : 1 <= wid c /\ wid c <= 4 := by
 unfold wid; split
 ·omega
 split
 ·omega
 split <;> omega
theorem oneN_le (l : List Nat) (hl : ∀ x ∈ l, x < 256) : (oneN l).2 <= l.length /\ (oneN l).2 <= 4 := by
 obtain ⟨c, n, h⟩ : ∃ c n, oneN l = (c, n) := ⟨_, _, rfl⟩; rw [h]
 by_cases hn : n = 0
 ·subst hn; simp
 ·obtain ⟨_, h2, _, h4⟩ := put_oneN hl h hn
  have := wid_pos c; exact ⟨h4, by simp only; omega⟩
def cont (c : Nat) : List Nat -> Option Nat
 | [] => some c
 | b :: r => if b / 64 = 2 then cont (c * 64 + b % 64) r else none
def initOf (a n : Nat) : Nat := if n = 2 then a % 32 else if n = 3 then a % 16 else a % 8
theorem oneN_many {a n : Nat} {r : List Nat} (hb : ∀ x ∈ a :: r, x < 256) (hn : sizeOf8 a = n) (h2 : 2 <= n) :
  oneN (a :: r) = if r.length < n - 1 then (0, 0) else match cont (initOf a n) (r.take (n - 1)) with
   | none => (0, 0)
   | some C => if isSc C = true /\ wid C = n then (C, n) else (0, 0) := by
 unfold sizeOf8 at hn
 by_cases h1 : a < 128
 ·rw [if_pos h1] at hn; omega
 rw [if_neg h1] at hn
 by_cases h3 : a < 192
 ·rw [if_pos h3] at hn; omega
 rw [if_neg h3] at hn
 have w2 : ∀ C, C < 2048 -> ((isSc C = true /\ wid C = 2) ↔ 128 <= C) := by
  intro C hC; rw [isSc_iff]; unfold wid
  by_cases h : C < 128
  ·simp [h]
  ·simp [h, hC]; omega
 have w3 : ∀ C, C < 65536 -> ((isSc C = true /\ wid C = 3) ↔ (2048 <= C /\ isSc C = true)) := by
  intro C hC; unfold wid
  by_cases h : C < 128
  ·simp [h]; omega
  ·by_cases h' : C < 2048
   ·simp [h, h']; omega
   ·simp [h, h', hC]; omega
 have w4 : ∀ C, ((isSc C = true /\ wid C = 4) ↔ (65536 <= C /\ isSc C = true)) := by
  intro C; unfold wid
  by_cases h : C < 128
  ·simp [h]; omega
  ·by_cases h' : C < 2048
   ·simp [h, h']; omega
   ·by_cases h'' : C < 65536
    ·simp [h, h', h'']; omega
    ·simp [h, h', h'']; omega
 by_cases h4 : a < 224
 ·rw [if_pos h4] at hn
  subst hn; simp only [oneN, if_neg h1, if_neg h3, if_pos h4]
  match r with
  | [] => simp
  | b :: r' =>
   have hb1 := hb b (by simp)
   by_cases hc : b / 64 = 2
   ·have e : initOf a 2 * 64 + b % 64 = (a - 192) * 64 + (b - 128) := by simp [initOf]; omega
    simp only [List.take_succ_cons, List.take_zero, cont, hc, if_true, true_and, e, List.length_cons]; rw [if_neg (show ¬ (r'.length + 1 < 2 - 1) by omega)]
    simp only [w2 _ (show (a - 192) * 64 + (b - 128) < 2048 by omega)]
   ·simp [cont, hc]
 rw [if_neg h4] at hn
 by_cases h5 : a < 240
 ·rw [if_pos h5] at hn
  subst hn; simp only [oneN, if_neg h1, if_neg h3, if_neg h4, if_pos h5]
  match r with
  | [] => simp
  | [b] => simp
  | b :: d :: r' =>
   have hb1 := hb b (by simp)
   have hb2 := hb d (by simp)
   by_cases hc : b / 64 = 2
   ·by_cases hd : d / 64 = 2
    ·have e : (initOf a 3 * 64 + b % 64) * 64 + d % 64 = ((a - 224) * 64 + (b - 128)) * 64 + (d - 128) := by simp [initOf]; omega
     simp only [List.take_succ_cons, List.take_zero, cont, hc, hd, if_true, true_and, e, List.length_cons]; rw [if_neg (show ¬ (r'.length + 1 + 1 < 3 - 1) by omega)]
     simp only [w3 _ (show ((a - 224) * 64 + (b - 128)) * 64 + (d - 128) < 65536 by omega)]
    ·simp [cont, hc, hd]
   ·simp [cont, hc]
 rw [if_neg h5] at hn
 by_cases h6 : a < 248
 ·rw [if_pos h6] at hn
  subst hn; simp only [oneN, if_neg h1, if_neg h3, if_neg h4, if_neg h5, if_pos h6]
  match r with
  | [] => simp
  | [b] => simp
  | [b, d] => simp
  | b :: d :: f :: r' =>
   have hb1 := hb b (by simp)
   have hb2 := hb d (by simp)
   have hb3 := hb f (by simp)
   by_cases hc : b / 64 = 2
   ·by_cases hd : d / 64 = 2
    ·by_cases hf : f / 64 = 2
     ·have e : ((initOf a 4 * 64 + b % 64) * 64 + d % 64) * 64 + f % 64 = (((a - 240) * 64 + (b - 128)) * 64 + (d - 128)) * 64 + (f - 128) := by simp [initOf]; omega
      simp only [List.take_succ_cons, List.take_zero, cont, hc, hd, hf, if_true, true_and, e, List.length_cons]; rw [if_neg (show ¬ (r'.length + 1 + 1 + 1 < 4 - 1) by omega)]
      simp only [w4]
     ·simp [cont, hc, hd, hf]
    ·simp [cont, hc, hd]
   ·simp [cont, hc]
 ·rw [if_neg h6] at hn; omega
theorem sizeOf8_cases (a : Nat) : sizeOf8 a = 0 \/ sizeOf8 a = 1 \/ sizeOf8 a = 2 \/ sizeOf8 a = 3 \/ sizeOf8 a = 4 := by
 unfold sizeOf8; repeat' (first | omega | split)
theorem oneN_none {a : Nat} {r : List Nat} (h : sizeOf8 a = 0) : oneN (a :: r) = (0, 0) := by
 unfold sizeOf8 at h; simp only [oneN]
 by_cases h1 : a < 128
 ·rw [if_pos h1] at h; omega
 rw [if_neg h1] at h ⊢
 by_cases h2 : a < 192
 ·rw [if_pos h2]
 rw [if_neg h2] at h ⊢
 by_cases h3 : a < 224
 ·rw [if_pos h3] at h; omega
 rw [if_neg h3] at h ⊢
 by_cases h4 : a < 240
 ·rw [if_pos h4] at h; omega
 rw [if_neg h4] at h ⊢
 by_cases h5 : a < 248
 ·rw [if_pos h5] at h; omega
 rw [if_neg h5]
theorem sizeOf8_one {a : Nat} (h : sizeOf8 a = 1) : a < 128 := by
 unfold sizeOf8 at h
 by_cases h1 : a < 128
 ·exact h1
 rw [if_neg h1] at h; repeat' (first | omega | split at h)
def scanF : Nat -> List Nat -> Nat -> List (Nat × Nat) × Option Nat
 | 0, _, _ => ([], none)
 | k + 1, l, a => if l = [] then ([], none) else if (oneN l).2 = 0 then ([], some a) else
  ((a, (oneN l).1) :: (scanF k (l.drop (oneN l).2) (a + (oneN l).2)).1, (scanF k (l.drop (oneN l).2) (a + (oneN l).2)).2)
theorem scanF_same : ∀ (k j : Nat) (l : List Nat) (a : Nat), l.length <= k -> l.length <= j -> scanF k l a = scanF j l a
 | 0, 0, _, _, _, _ => rfl
 | 0, j + 1, l, a, h, _ => by
  have : l = [] := List.eq_nil_of_length_eq_zero (by omega)
  subst this; simp [scanF]
 | k + 1, 0, l, a, _, h => by
  have : l = [] := List.eq_nil_of_length_eq_zero (by omega)
  subst this; simp [scanF]
 | k + 1, j + 1, l, a, h1, h2 => by
  by_cases hl : l = []
  ·subst hl; simp [scanF]
  ·have hp := List.length_pos_iff.2 hl
   simp only [scanF, if_neg hl]
   by_cases he : (oneN l).2 = 0
   ·simp [he]
   ·rw [scanF_same k j _ _ (by simp; omega) (by simp; omega)]
def scan (l : List Nat) (a : Nat) : List (Nat × Nat) × Option Nat := scanF l.length l a
theorem scan_nil (a : Nat) : scan [] a = ([], none) := rfl
theorem scan_step {l : List Nat} (hl : l ≠ []) (a : Nat) : scan l a = if (oneN l).2 = 0 then ([], some a) else
  ((a, (oneN l).1) :: (scan (l.drop (oneN l).2) (a + (oneN l).2)).1, (scan (l.drop (oneN l).2) (a + (oneN l).2)).2) := by
 unfold scan; obtain ⟨k, hk⟩ : ∃ k, l.length = k + 1 := ⟨l.length - 1, by have := List.length_pos_iff.2 hl; omega⟩
 rw [hk]; simp only [scanF, if_neg hl]
 by_cases he : (oneN l).2 = 0
 ·simp [he]
 ·rw [scanF_same k (l.drop (oneN l).2).length _ _ (by simp; omega) (Nat.le_refl _)]
theorem scan_bad {l : List Nat} (hl : l ≠ []) {a : Nat} (h : (oneN l).2 = 0) : scan l a = ([], some a) := by rw [scan_step hl, if_pos h]
theorem scan_good {l : List Nat} (hl : l ≠ []) {a c n : Nat} (h : oneN l = (c, n)) (hn : n ≠ 0) : scan l a = ((a, c) :: (scan (l.drop n) (a + n)).1, (scan (l.drop n) (a + n)).2) := by
 rw [scan_step hl, h, if_neg hn]
theorem scan_len : ∀ (k : Nat) (l : List Nat) (a : Nat), l.length <= k -> (scan l a).1.length <= l.length
 | k, l, a, hk => by
  by_cases h0 : l = []
  ·subst h0; simp [scan_nil]
  by_cases hn : (oneN l).2 = 0
  ·rw [scan_bad h0 hn]; simp
  ·have hp := List.length_pos_iff.2 h0
   cases k with
   | zero => omega
   | succ k =>
    have ih := scan_len k (l.drop (oneN l).2) (a + (oneN l).2) (by simp; omega)
    rw [scan_step h0, if_neg hn]; simp at ih ⊢; omega
end Go.Proofs.YtbcdaaobbebooaaGreatDoor
namespace Go.Proofs.YtbcdaaobbebooaaGreatDoor
set_option maxRecDepth 100000
set_option maxHeartbeats 20000000
def hexV (c : Nat) : Option Nat := if 48 <= c /\ c <= 57 then some (c - 48) else if 97 <= c /\ c <= 102 then some (c - 87) else if 65 <= c /\ c <= 70 then some (c - 55) else none
def unitF : Nat -> Nat -> List Nat -> Nat × Nat
 | 0, n, _ => (n, 0)
 | _ + 1, _, [] => (0, 2)
 | k + 1, n, c :: r => match hexV c with
  | none => (0, 3)
  | some d => unitF k (n * 16 + d) r
def unitQ (l : List Nat) : Nat × Nat := unitF 4 0 l
abbrev PartR := List Nat × Nat × Nat
def errR (e : Nat) : PartR := ([], 0, e)
def lowQ (n : Nat) : List Nat -> PartR
 | [] => errR 2
 | c :: t => if c ≠ 92 then errR 3 else match t with
  | [] => errR 2
  | d :: u => if d ≠ 117 then errR 3 else if (unitQ u).2 ≠ 0 then errR (unitQ u).2 else
   if (unitQ u).1 < 56320 \/ 57343 < (unitQ u).1 then errR 3 else (putN (65536 + (n - 55296) * 1024 + ((unitQ u).1 - 56320)), 12, 0)
def codedQ (r : List Nat) : PartR :=
 if (unitQ r).2 ≠ 0 then errR (unitQ r).2 else
 if 56320 <= (unitQ r).1 /\ (unitQ r).1 <= 57343 then errR 3 else
 if (unitQ r).1 < 55296 \/ 57343 < (unitQ r).1 then (putN (unitQ r).1, 6, 0) else lowQ (unitQ r).1 (r.drop 4)
def escB (c : Nat) : Option Nat :=
 if c = 34 \/ c = 92 \/ c = 47 then some c else if c = 98 then some 8 else if c = 102 then some 12 else if c = 110 then some 10 else if c = 114 then some 13 else if c = 116 then some 9 else none
def escQ : List Nat -> PartR
 | [] => errR 2
 | c :: r => match escB c with
  | some b => ([b], 2, 0)
  | none => if c = 117 then codedQ r else errR 3
def partQ : List Nat -> PartR
 | [] => errR 2
 | c :: r => if c < 32 then errR 3 else if c = 92 then escQ r else if (oneN (c :: r)).2 = 0 then errR 7 else ((c :: r).take (oneN (c :: r)).2, (oneN (c :: r)).2, 0)
theorem unitF_val : ∀ (k n : Nat) (l : List Nat), (unitF k n l).2 = 0 -> k <= l.length /\ (unitF k n l).1 < (n + 1) * 16 ^ k
 | 0, n, l, _ => by simp [unitF]
 | k + 1, n, [], h => by simp [unitF] at h
 | k + 1, n, c :: r, h => by
  simp only [unitF] at h ⊢
  cases hc : hexV c with
  | none => rw [hc] at h; simp at h
  | some d =>
   rw [hc] at h; simp only at h
   have hd : d < 16 := by
    unfold hexV at hc; split at hc
    ·cases hc; omega
    split at hc
    ·cases hc; omega
    split at hc
    ·cases hc; omega
    ·cases hc
   obtain ⟨h1, h2⟩ := unitF_val k _ r h; refine ⟨by simp; omega, Nat.lt_of_lt_of_le h2 ?_⟩
   have : n * 16 + d + 1 <= (n + 1) * 16 := by omega
   calc (n * 16 + d + 1) * 16 ^ k <= ((n + 1) * 16) * 16 ^ k := Nat.mul_le_mul_right _ this
    _ = (n + 1) * 16 ^ (k + 1) := by rw [Nat.pow_succ]; ac_rfl
theorem unitQ_val {l : List Nat} (h : (unitQ l).2 = 0) : 4 <= l.length /\ (unitQ l).1 < 65536 := by
 have := unitF_val 4 0 l h; exact ⟨this.1, by have := this.2; simpa [unitQ] using this⟩
theorem lowQ_ok {n : Nat} {l : List Nat} (hn : 55296 <= n /\ n <= 56319) (h : (lowQ n l).2.2 = 0) : ∃ c, isSc c = true /\ (lowQ n l).1 = putN c /\ (lowQ n l).2.1 = 12 /\ 6 <= l.length := by
 unfold lowQ at h ⊢
 match l with
 | [] => simp [errR] at h
 | [c] => by_cases hc : c = 92 <;> simp [errR, hc] at h
 | c :: d :: u =>
  simp only at h ⊢
  by_cases hc : c = 92
  ·by_cases hd : d = 117
   ·rw [if_neg (by simp [hc]), if_neg (by simp [hd])] at h ⊢
    by_cases hu : (unitQ u).2 = 0
    ·rw [if_neg (by simp [hu])] at h ⊢
     by_cases hr : (unitQ u).1 < 56320 \/ 57343 < (unitQ u).1
     ·rw [if_pos hr] at h; simp [errR] at h
     ·rw [if_neg hr]
      obtain ⟨v1, v2⟩ := unitQ_val hu; obtain ⟨x, hx⟩ : ∃ x, x = 65536 + (n - 55296) * 1024 + ((unitQ u).1 - 56320) := ⟨_, rfl⟩; rw [<- hx]; have hs : isSc x = true := by rw [isSc_iff]; omega
      exact ⟨x, hs, rfl, rfl, by simp only [List.length_cons]; omega⟩
    ·rw [if_pos (by simpa using hu)] at h; exact absurd h hu
   ·rw [if_neg (by simp [hc]), if_pos (by simpa using hd)] at h; simp [errR] at h
  ·rw [if_pos (by simpa using hc)] at h; simp [errR] at h
theorem codedQ_ok {r : List Nat} (h : (codedQ r).2.2 = 0) : ∃ c, isSc c = true /\ (codedQ r).1 = putN c /\ 1 <= (codedQ r).2.1 /\ (codedQ r).2.1 <= r.length + 2 := by
 unfold codedQ at h ⊢
 by_cases hu : (unitQ r).2 = 0
 ·rw [if_neg (by simp [hu])] at h ⊢
  have hv := unitQ_val hu
  by_cases h1 : 56320 <= (unitQ r).1 /\ (unitQ r).1 <= 57343
  ·rw [if_pos h1] at h; simp [errR] at h
  ·rw [if_neg h1] at h ⊢
   by_cases h2 : (unitQ r).1 < 55296 \/ 57343 < (unitQ r).1
   ·rw [if_pos h2]
    exact ⟨_, by rw [isSc_iff]; omega, rfl, by simp, by simp; omega⟩
   ·rw [if_neg h2] at h ⊢
    obtain ⟨c, q1, q2, q3, q4⟩ := lowQ_ok (by omega) h
    simp at q4
    exact ⟨c, q1, q2, by omega, by omega⟩
 ·rw [if_pos (by simpa using hu)] at h; exact absurd h hu
theorem partQ_ok {l : List Nat} (hl : ∀ x ∈ l, x < 256) (h : (partQ l).2.2 = 0) : ∃ c, isSc c = true /\ (partQ l).1 = putN c /\ 1 <= (partQ l).2.1 /\ (partQ l).2.1 <= l.length := by
 match l with
 | [] => simp [partQ, errR] at h
 | c :: r =>
  simp only [partQ] at h ⊢
  by_cases h1 : c < 32
  ·rw [if_pos h1] at h; simp [errR] at h
  rw [if_neg h1] at h ⊢
  by_cases h2 : c = 92
  ·rw [if_pos h2] at h ⊢
   match r with
   | [] => simp [escQ, errR] at h
   | d :: t =>
    simp only [escQ] at h ⊢
    cases hd : escB d with
    | some b =>
     have hb : b < 128 := by
      unfold escB at hd; repeat' (split at hd)
      all_goals first | (cases hd; omega) | cases hd
     exact ⟨b, by rw [isSc_iff]; omega, by simp [putN, hb], by simp, by simp⟩
    | none =>
     rw [hd] at h; simp only at h ⊢
     by_cases h3 : d = 117
     ·rw [if_pos h3] at h ⊢
      obtain ⟨c, q1, q2, q3, q4⟩ := codedQ_ok h; exact ⟨c, q1, q2, q3, by simp; omega⟩
     ·rw [if_neg h3] at h; simp [errR] at h
  ·rw [if_neg h2] at h ⊢
   by_cases h3 : (oneN (c :: r)).2 = 0
   ·rw [if_pos h3] at h; simp [errR] at h
   ·rw [if_neg h3]
    obtain ⟨q1, q2, q3, q4⟩ := put_oneN hl rfl h3; exact ⟨_, q1, q3.symm, by simp only; omega, q4⟩
def bodyF : Nat -> List Nat -> PartR
 | 0, _ => errR 2
 | k + 1, l => if l.head? = some 34 then ([], 1, 0) else if (partQ l).2.2 ≠ 0 then errR (partQ l).2.2 else
  if (bodyF k (l.drop (partQ l).2.1)).2.2 ≠ 0 then errR (bodyF k (l.drop (partQ l).2.1)).2.2 else
  ((partQ l).1 ++ (bodyF k (l.drop (partQ l).2.1)).1, (partQ l).2.1 + (bodyF k (l.drop (partQ l).2.1)).2.1, 0)
def bodyQ (l : List Nat) : PartR := bodyF (l.length + 1) l
def Byt (l : List Nat) : Prop := ∀ x ∈ l, x < 256
theorem Byt.drop {l : List Nat} (h : Byt l) (k : Nat) : Byt (l.drop k) := fun x hx => h x (List.mem_of_mem_drop hx)
theorem bodyF_same : ∀ (k j : Nat) (l : List Nat), Byt l -> l.length < k -> l.length < j -> bodyF k l = bodyF j l
 | 0, _, _, _, h, _ => by omega
 | _ + 1, 0, _, _, _, h => by omega
 | k + 1, j + 1, l, hl, h1, h2 => by
  simp only [bodyF]; split
  ·rfl
  by_cases h3 : (partQ l).2.2 = 0
  ·obtain ⟨_, _, _, q3, q4⟩ := partQ_ok hl h3
   rw [bodyF_same k j _ (hl.drop _) (by simp; omega) (by simp; omega)]
  ·rw [if_pos (by simpa using h3), if_pos (by simpa using h3)]
theorem bodyQ_step {l : List Nat} (hl : Byt l) : bodyQ l = if l.head? = some 34 then ([], 1, 0) else if (partQ l).2.2 ≠ 0 then errR (partQ l).2.2 else
  if (bodyQ (l.drop (partQ l).2.1)).2.2 ≠ 0 then errR (bodyQ (l.drop (partQ l).2.1)).2.2 else
  ((partQ l).1 ++ (bodyQ (l.drop (partQ l).2.1)).1, (partQ l).2.1 + (bodyQ (l.drop (partQ l).2.1)).2.1, 0) := by
 unfold bodyQ; rw [bodyF]; split
 ·rfl
 by_cases h3 : (partQ l).2.2 = 0
 ·obtain ⟨_, _, _, q3, q4⟩ := partQ_ok hl h3
  rw [bodyF_same l.length ((l.drop (partQ l).2.1).length + 1) _ (hl.drop _) (by simp; omega) (by simp)]
 ·rw [if_pos (by simpa using h3), if_pos (by simpa using h3)]
def joinR (pre : List Nat) (k : Nat) (q : PartR) : PartR := if q.2.2 ≠ 0 then errR q.2.2 else (pre ++ q.1, k + q.2.1, 0)
def scanQ : List Nat -> PartR
 | [] => errR 2
 | c :: r => if c ≠ 34 then errR 3 else joinR [] 1 (bodyQ r)
theorem joinR_err {pre : List Nat} {k e : Nat} : joinR pre k (errR e) = if e ≠ 0 then errR e else (pre, k, 0) := by simp [joinR, errR]
theorem joinR_end {l : List Nat} (hl : Byt l) {pre : List Nat} {k : Nat} (h : l.head? = some 34) : joinR pre k (bodyQ l) = (pre, k + 1, 0) := by
 rw [bodyQ_step hl, if_pos h]; simp [joinR]
theorem joinR_bad {l : List Nat} (hl : Byt l) {pre : List Nat} {k : Nat} (h : l.head? ≠ some 34) (he : (partQ l).2.2 ≠ 0) : joinR pre k (bodyQ l) = errR (partQ l).2.2 := by
 rw [bodyQ_step hl, if_neg h, if_pos he, joinR_err, if_pos he]
theorem joinR_good {l : List Nat} (hl : Byt l) {pre : List Nat} {k : Nat} (h : l.head? ≠ some 34) (he : (partQ l).2.2 = 0) :
  joinR pre k (bodyQ l) = joinR (pre ++ (partQ l).1) (k + (partQ l).2.1) (bodyQ (l.drop (partQ l).2.1)) := by
 rw [bodyQ_step hl, if_neg h, if_neg (by simp [he])]
 by_cases h2 : (bodyQ (l.drop (partQ l).2.1)).2.2 = 0
 ·rw [if_neg (by simp [h2])]; simp [joinR, h2, Nat.add_assoc]
 ·rw [if_pos h2, joinR_err, if_pos h2]; simp [joinR, h2]
end Go.Proofs.YtbcdaaobbebooaaGreatDoor
