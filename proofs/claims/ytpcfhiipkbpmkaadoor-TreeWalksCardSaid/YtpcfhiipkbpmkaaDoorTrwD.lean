/- The walk of the function that Walk hands back (layer 8). -/
import Derived.Test.YtpcfhiipkbpmkaaDoorTrwC
import Derived.Sort.CutIn
import Derived.Laws.EntriesVeiled
namespace Go.Proofs.YtpcfhiipkbpmkaaDoor
open Go.RowKit Go.Tab Go.Shelf
attribute [local go_sem] Oper.semAt_some

theorem tell_any (l Y Wb b1 b2 N : Nat) (P : Nat → Prop) (hP : ∀ k, P k → k ≠ b1 ∧ k ≠ b2) (hYn : Y ≠ b1 ∧ Y ≠ b2) (hWn : Wb ≠ b1 ∧ Wb ≠ b2) (J Jx : List Tx → World → Prop) (hJb : ∀ s W W', J s W → Below W.heap.size W W' → J s W')
    (hY : ∀ m pre (x : Tx) W, J pre W → ValAt W x.2.1 x.2.2 → pre.length < N → YieldAt Fence.wide m Tryd.prog l (encT x) W fun e W' => (e = .returned (.bool true) ∧ J (pre ++ [x]) W' ∧ KpW b1 b2 W W') ∨ (e = .returned (.bool false) ∧ Jx (pre ++ [x]) W'))
    (n : Nat) : ∀ (t : Tree), t.bulk ≤ n → t.bulk ≤ 1048576 → ∀ (rm dp : Nat) (pre : List Tx) (W : World) (cs : List Value), b1 < W.heap.size ∧ b2 < W.heap.size → dp + t.bulk ≤ 4194304 → Cells W Y #[.func (.yield l) #[] #[]] 68 → Cells W Wb #[.func (.func 49) #[] #[.pointer (some ⟨Y, 0, none⟩), .pointer (some ⟨Wb, 0, none⟩)]] 68 → ValIn P W t cs → J pre W → pre.length + (spots dp t).length ≤ N →
      CallsIn Fence.wide rm Tryd.prog 49 #[.int .i64 (dp : Int), valV cs, .pointer (some ⟨Y, 0, none⟩), .pointer (some ⟨Wb, 0, none⟩)] W (ToldW J Jx b1 b2 pre (spots dp t) W) := by
  induction n with
  | zero => intro t h; have := bulk_pos t; omega
  | succ n IH =>
    intro t h hmax rm dp pre W cs hbs hdp hcY hcW hv hJ hN
    cases t
    exact tell_step l Y Wb b1 b2 N P hP hYn hWn J Jx hJb hY n IH _ _ _ _ _ _ _ _ h hmax rm dp pre W cs hbs hdp hcY hcW hv hJ hN

set_option maxHeartbeats 4000000 in
set_option maxRecDepth 100000 in
theorem Walk1_in (l X b1 b2 n : Nat) (P : Nat → Prop) (hP : ∀ k, P k → k ≠ b1 ∧ k ≠ b2) (J Jx : List Tx → World → Prop) (hJb : ∀ s W W', J s W → Below W.heap.size W W' → J s W')
    (t : Tree) (hb : t.bulk ≤ 1048576)
    (hY : ∀ pre (x : Tx) W, J pre W → ValAt W x.2.1 x.2.2 → pre.length < (spots 0 t).length → YieldAt Fence.wide (n - 1) Tryd.prog l (encT x) W fun e W' => (e = .returned (.bool true) ∧ J (pre ++ [x]) W' ∧ KpW b1 b2 W W') ∨ (e = .returned (.bool false) ∧ Jx (pre ++ [x]) W'))
    (W : World) (cs : List Value) (hbs : b1 < W.heap.size ∧ b2 < W.heap.size) (hX : Cells W X cs.toArray 27) (hv : ValIn P W t cs) (h0 : J [] W) :
    CallsIn Fence.wide n Tryd.prog 48 #[.func (.yield l) #[] #[], .pointer (some ⟨X, 0, none⟩)] W fun e W' => (∃ v, e = .returned v) ∧ ((∃ xs : List Tx, xs.map keyT = spots 0 t ∧ J xs W') ∨ (∃ xs : List Tx, xs.map keyT <+: spots 0 t ∧ Jx xs W')) := by
  obtain ⟨kind, is, neg, digits, exp, str, ka, kn, kc, sa, sn, sc, rfl⟩ := hv.shape
  refine callsIn_of_wp Tryd.func48 rfl trivial ?_ rfl
  simp only [Tryd.ntmps48, List.size_toArray, List.length_cons, List.length_nil, Nat.reduceAdd, Nat.reduceSub, Array.replicate_succ, Array.replicate_zero, List.push_toArray, List.append_toArray, List.nil_append, List.cons_append]
  have hXl := hX.lt
  have hA := Cells.new (W.alloc (.cells #[.func (.yield l) #[] #[]] 68)) #[.nilFunc] 68
  simp only [World.size_alloc] at hA
  have hcY := ((Cells.new W #[.func (.yield l) #[] #[]] 68).alloc (.cells #[.nilFunc] 68)).setOther ⟨W.heap.size + 1, 0, none⟩ (.func (.func 49) #[] #[.pointer (some ⟨W.heap.size, 0, none⟩), .pointer (some ⟨W.heap.size + 1, 0, none⟩)]) (by show W.heap.size + 1 ≠ _; omega)
  have hcW := hA.setI 0 (.func (.func 49) #[] #[.pointer (some ⟨W.heap.size, 0, none⟩), .pointer (some ⟨W.heap.size + 1, 0, none⟩)])
  have hb3 : Below W.heap.size W (((W.alloc (.cells #[.func (.yield l) #[] #[]] 68)).alloc (.cells #[.nilFunc] 68)).setCell ⟨W.heap.size + 1, 0, none⟩ (.func (.func 49) #[] #[.pointer (some ⟨W.heap.size, 0, none⟩), .pointer (some ⟨W.heap.size + 1, 0, none⟩)])) := by (repeat' (first | (with_reducible refine Below.setCell ?_ ?_ _) | (with_reducible refine Below.alloc ?_ ?_ _) | (with_reducible refine Below.drew ?_) | (with_reducible assumption) | (with_reducible exact Below.refl _ _) | (simp only [World.size_alloc, World.size_setCell, World.size_drew]; done) | (simp only [World.size_alloc, World.size_setCell, World.size_drew]; omega) | omega))
  have hT := tell_any l W.heap.size (W.heap.size + 1) b1 b2 (spots 0 t).length P hP (by omega) (by omega) J Jx hJb (fun m pre x W hj hv hl => yieldAt_any m (hY pre x W hj hv hl)) t.bulk t (Nat.le_refl _) hb (n - 1) 0 [] _ _ (by have := hb3.size; omega) (by omega) hcY hcW (ValIn.below hb3 _ _ hv) (hJb _ _ _ h0 hb3) (by simp)
  have a0 := hA.cell 0 .nilFunc rfl
  have f0 := hA.frozen 0
  clear hA hcY hcW hb3 hv h0 hY hJb
  simp only [valV, List.nil_append] at hT
  have hX2 := (hX.alloc (.cells #[.func (.yield l) #[] #[]] 68)).alloc (.cells #[.nilFunc] 68)
  have hz2 : ((W.alloc (.cells #[.func (.yield l) #[] #[]] 68)).alloc (.cells #[.nilFunc] 68)).heap.size = W.heap.size + 2 := by simp
  clear hX
  gi_upto_region 2 with fail
  generalize ((W.alloc (.cells #[.func (.yield l) #[] #[]] 68)).alloc (.cells #[.nilFunc] 68)) = WW at *
  have hXl2 := hX2.lt
  have hwl2 : W.heap.size + 1 < WW.heap.size := by omega
  have hX2c0 := hX2.cell 0 _ rfl
  have hX2f0 := hX2.frozen 0
  have hX2c1 := hX2.cell 1 _ rfl
  have hX2f1 := hX2.frozen 1
  have hX2c2 := hX2.cell 2 _ rfl
  have hX2f2 := hX2.frozen 2
  have hX2c3 := hX2.cell 3 _ rfl
  have hX2f3 := hX2.frozen 3
  have hX2c4 := hX2.cell 4 _ rfl
  have hX2f4 := hX2.frozen 4
  have hX2c5 := hX2.cell 5 _ rfl
  have hX2f5 := hX2.frozen 5
  have hX2c6 := hX2.cell 6 _ rfl
  have hX2f6 := hX2.frozen 6
  have hX2c7 := hX2.cell 7 _ rfl
  have hX2f7 := hX2.frozen 7
  gi_wp2_with ((try refine ⟨trivial, wideN, ?_⟩); gi_at_call 49; refine hT.mono ?_; clear hT; rintro e w4 (⟨rfl, ys, hys, hJ4, hk4⟩ | ⟨rfl, ys, hys, hx4⟩))
  · go_end0
    exact ⟨⟨_, rfl⟩, .inl ⟨ys, hys, hJ4⟩⟩
  · go_end0
    exact ⟨⟨_, rfl⟩, .inr ⟨ys, hys, hx4⟩⟩
end Go.Proofs.YtpcfhiipkbpmkaaDoor
