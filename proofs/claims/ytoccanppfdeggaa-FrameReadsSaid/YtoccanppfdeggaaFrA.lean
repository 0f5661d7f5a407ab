/- Boxes of several cells; the walks of the reader's smallest methods (layer 5). -/
import Derived.Test.YtoccanppfdeggaaVarB
namespace Go.Proofs.Ytoccanppfdeggaa
open Go.RowKit Go.Tab

/-- Block g is a variable of several cells. -/
def Cells (w : World) (g : Nat) (cs : Array Value) (t : TypeId) : Prop := w.heap[g]? = some (.cells cs t (0, 0))
section
variable {w w' : World} {g : Nat} {cs : Array Value} {t : TypeId}
theorem Cells.lt (h : Cells w g cs t) : g < w.heap.size := (Array.getElem?_eq_some_iff.1 h).1
theorem Cells.cell (h : Cells w g cs t) (j : Nat) (v : Value) (hj : cs[j]? = some v) : w.cell? ⟨g, j, none⟩ = some v := by
  rw [cell_of_row w g _ cs t (0, 0) h]; exact hj
theorem Cells.frozen (h : Cells w g cs t) (j : Nat) : w.frozen? ⟨g, j, none⟩ = false := by simp [World.frozen?, show w.heap[g]? = _ from h]
theorem Cells.kept {row : Option Nat} (h : Cells w g cs t) (hg : w.grownBy w' row) (hne : some g ≠ row) : Cells w' g cs t := (hg.block g h.lt hne).trans h
theorem Cells.alloc (h : Cells w g cs t) (o : Obj) : Cells (w.alloc o) g cs t := h.kept (World.grownBy_alloc w o none) (by simp)
theorem Cells.set (h : Cells w g cs t) (j : Nat) (hj : j < cs.size) (v : Value) : Cells (w.setCell ⟨g, j, none⟩ v) g (cs.set j v hj) t := by
  obtain ⟨hlt, hk⟩ := Array.getElem?_eq_some_iff.1 h
  show (w.heap.modify g _)[g]? = _
  rw [Array.getElem?_eq_getElem (by rw [Array.size_modify]; exact hlt), Array.getElem_modify_self, hk]
  simp [Array.setIfInBounds, hj]
theorem Cells.new (w : World) (cs : Array Value) (t : TypeId) : Cells (w.alloc (.cells cs t)) w.heap.size cs t := by
  show (w.heap.push _)[w.heap.size]? = _
  simp
end
theorem grownBy_setAt (W : World) (b j : Nat) (v : Value) : W.grownBy (W.setCell ⟨b, j, none⟩ v) (some b) :=
  ⟨rfl, rfl, rfl, by simp [World.setCell], fun k _ hk => Below.heap_setCell _ _ _ k (fun e => hk (by rw [e]))⟩

theorem grown_widen {w w' : World} {row : Option Nat} (h : w.grownBy w' none) : w.grownBy w' row := by
  obtain ⟨h1, h2, h3, h4, h5⟩ := h
  exact ⟨h1, h2, h3, h4, fun k hk _ => h5 k hk (by simp)⟩

/-- A slice that is read, by its three parts. -/
theorem _root_.Go.Tab.RowOf.shape {α : Type} {f : α → Value} {w : World} {v : Value} {l : List α} (h : RowOf f w v l) : ∃ a n cap, v = .slice a n cap ∧ n = l.length := by
  obtain ⟨a, cap, h1, _⟩ := h
  exact ⟨a, _, cap, h1, rfl⟩
section
variable {α : Type} {f : α → Value} {P : Program} {w : World} {ops : Array Oper} {rest : List Oper} {o : Oper} {a : Act} {Q : Exit → Act → World → Prop}
/-- 's[lo:hi]': what is told holds in each world in which s reads. -/
theorem wpList_slice_lhW (hgd : Region.wanted o (yielded ops a.tmps) = true) (x lo hi : Operand) (t : TypeId) (ho : o.op = .slice t x (some lo) (some hi) none)
    (ht : P.underlying t = some (.slice (P.elem t))) (hs : (P.info? (P.elem t)).map (fun i => i.size) = some 1)
    (l : List α) (hrow : RowOf f w (a.eval x) l) (k k2 : IntKind) (n n2 : Int) (L H : Nat) (eL : a.eval lo = .int k n) (eH : a.eval hi = .int k2 n2) (hL : n = L) (hH : n2 = H) (h1 : L ≤ H) (h2 : H ≤ l.length)
    (hK : ∀ v', (∀ W, RowOf f W (a.eval x) l → RowOf f W v' ((l.take H).drop L)) → v'.ownBlock = (a.eval x).ownBlock → wpList P ops Q rest (a.put o.dst v') w) : wpList P ops Q (o :: rest) a w := by
  obtain ⟨ao, cap, hv, h3, h4, h5⟩ := hrow.len
  rw [hv] at hrow
  obtain ⟨r1, r2⟩ := hrow.piece h1 h2
  refine wpList_want hgd fun K hK' => ?_
  subst hL hH
  have hrun := run_slice_lh (P := P) w t ao l.length cap ht k k2 (L : Int) (H : Int) (by omega) (by omega) (by omega)
  unfold Oper.wp
  simp only [execOp, ho, hv, eL, eH, Option.map_some, Option.map_none, Sem.run_bind, run_sliceAt_slice (P := P) w t _ _ _ _ ht, hrun, run_sizeOf_one hs, Result.andThen, Sem.run_pure, Oper.upon_value, Int.toNat_natCast]
  exact hK' _ _ (hK _ (fun W hW => by rw [hv] at hW; exact (hW.piece h1 h2).1) (by rw [hv]; exact r2))
end

/-- The reader's box: the bytes that are left, the error. -/
def RdAt (w : World) (g : Nat) (b : Option Nat) (l : List UInt8) (e : Nat) : Prop :=
  ∃ v, Cells w g #[v, .int .i64 e] 74 ∧ BytesAt w v l ∧ v.ownBlock = b ∧ b ≠ some g

set_option maxHeartbeats 800000 in
set_option maxRecDepth 100000 in
theorem Left_any (g : Nat) (b : Option Nat) (l : List UInt8) (e : Nat) (w : World) (h : RdAt w g b l e) :
    Calls Try.prog 38 #[.pointer (some ⟨g, 0, none⟩)] w fun x w' => x = .returned (.int .i64 l.length) ∧ w = w' := by
  obtain ⟨v, hc, hv, rfl, hne⟩ := h
  obtain ⟨a, cap, rfl, hl, hm, hn⟩ := hv.len
  unfold maxLen at hm
  have h0 := hc.cell 0 _ rfl
  clear hv hne hc
  go_enter Try.func38, Try.ntmps38
  go_wp2
  go_ret
  exact ⟨rfl, rfl⟩

set_option maxHeartbeats 800000 in
set_option maxRecDepth 100000 in
theorem Err_any (g : Nat) (b : Option Nat) (l : List UInt8) (e : Nat) (w : World) (h : RdAt w g b l e) :
    Calls Try.prog 39 #[.pointer (some ⟨g, 0, none⟩)] w fun x w' => x = .returned (.int .i64 e) ∧ w = w' := by
  obtain ⟨v, hc, hv, rfl, hne⟩ := h
  have h0 := hc.cell 1 _ rfl
  clear hv hne hc
  go_enter Try.func39, Try.ntmps39
  go_wp2
  go_ret
  exact ⟨rfl, rfl⟩

set_option maxHeartbeats 800000 in
set_option maxRecDepth 100000 in
theorem New_any (v : Value) (l : List UInt8) (w : World) (hv : BytesAt w v l) (hlen : l.length ≤ 1000000) :
    Calls Try.prog 28 #[v] w fun x w' => ∃ g b, x = .returned (.pointer (some ⟨g, 0, none⟩)) ∧ RdAt w' g b l 0 ∧ w.heap.size ≤ g ∧ (∀ k, b = some k → w.heap.size ≤ k ∧ k < w'.heap.size) ∧ Below w.heap.size w w' := by
  go_enter Try.func28, Try.ntmps28
  go_wp2_with (with_reducible first | refine stop_append ?_ | refine stop_make ?_ | refine stop_slice ?_ | refine stop_copy ?_); refine Stop.out ?_
  refine wpList_append_row (f := byteV) rfl _ _ 22 rfl w.heap.size 5 1 _ Try.underlying22 Try.infoB rfl oneB [] l (by exact OwnOf.nil) (by exact hv) (by unfold maxLen; simp; omega) (by simp; omega) (Nat.le_refl _) w (Below.refl _ _) ?_
  intro v2 w2 ho2 hb2 hg2
  have hr := ho2.row
  obtain ⟨a2, cap2, rfl, hl2, hm2, hn2⟩ := hr.len
  go_wp2
  go_ret
  refine ⟨_, _, rfl, ⟨_, Cells.new _ _ _, hr.alloc _, rfl, ?_⟩, hb2.size, ?_, hb2.alloc hb2.size _⟩
  · intro h
    have := World.ownsRow.lt ho2 _ h
    omega
  · intro k hk
    have := World.ownsRow.lt ho2 _ hk
    simp only [World.size_alloc]
    omega
end Go.Proofs.Ytoccanppfdeggaa
