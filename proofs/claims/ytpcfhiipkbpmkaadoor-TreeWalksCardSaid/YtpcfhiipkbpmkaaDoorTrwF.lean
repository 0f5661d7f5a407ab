/- The walk of TreeWalks (layer 8). -/
import Derived.Test.YtpcfhiipkbpmkaaDoorTrwE
import Derived.Test.YtpcfhiipkbpmkaaDoorTreS
import Derived.Test.YtpcfhiipkbpmkaaDoorTreD
import Derived.Test.YtpcfhiipkbpmkaaDoorTreL
import Derived.Test.YtpcfhiipkbpmkaaDoorTrwG
import Derived.Test.YtpcfhiipkbpmkaaDoorTrwH
import Derived.Test.YtpcfhiipkbpmkaaDoorTrwI
namespace Go.Proofs.YtpcfhiipkbpmkaaDoor
open Go.RowKit Go.Tab Go.Shelf
attribute [local go_sem] Oper.semAt_some

theorem ValAt.shapeS {w : World} {t : Tree} {cs : List Value} (h : ValAt w t cs) :
    ∃ kind is neg digits exp str ka kn kc sa sn sc, cs = [.int .i64 kind, .bool is, .bool neg, .string digits, .int .i64 exp, .string str, .slice ka kn kc, .slice sa sn sc] := by
  cases t
  simp only [ValAt] at h
  obtain ⟨kv, a, cap, rfl, h2, -⟩ := h
  obtain ⟨ka, kc, rfl, -⟩ := h2.len
  exact ⟨_, _, _, _, _, _, _, _, _, _, _, _, rfl⟩
/-- The law's boxes and the wanted row, as they lay. -/
def FixW (b2 b3 b4 b5 base : Nat) (A : Array Value) (a1 : Int) (v5 : Value) (ss : List (Nat × Tree)) (w W : World) : Prop :=
  Cells W b2 A 27 ∧ Cells W b3 #[.int .u8 a1] 5 ∧ Cells W b4 #[.bool false] 4 ∧ Cells W b5 #[v5] 30 ∧ SpotsP base w W v5 ss ∧ Below w.heap.size w W
theorem FixW.step {b2 b3 b4 b5 base : Nat} {A : Array Value} {a1 : Int} {v5 : Value} {ss : List (Nat × Tree)} {w W W' : World} {row : Option Nat} (h : FixW b2 b3 b4 b5 base A a1 v5 ss w W) (hg : W.grownBy W' row)
    (hr : ∀ r, row = some r → w.heap.size ≤ r ∧ ∃ o : Obj, W.heap[r]? = some o ∧ o.isCells = false) : FixW b2 b3 b4 b5 base A a1 v5 ss w W' := by
  obtain ⟨h1, h2, h3, h4, ⟨L, q1, q2, q3⟩, h6⟩ := h
  have hk := KpA.grown hg (fun r e => (hr r e).2)
  exact ⟨hk.cells h1, hk.cells h2, hk.cells h3, hk.cells h4, ⟨L, q1, q2, hk.owns q3⟩, h6.grown hg h6.size (fun j hj => (hr j hj).1)⟩
theorem three_after {w w2 : World} {c1 c2 c3 : Array Value} {T1 T2 T3 : TypeId} (hb : Below (((w.alloc (.cells c1 T1)).alloc (.cells c2 T2)).alloc (.cells c3 T3)).heap.size (((w.alloc (.cells c1 T1)).alloc (.cells c2 T2)).alloc (.cells c3 T3)) w2) :
    Cells w2 w.heap.size c1 T1 ∧ Cells w2 (w.heap.size + 1) c2 T2 ∧ Cells w2 (w.heap.size + 1 + 1) c3 T3 ∧ Below w.heap.size w w2 := by
  have hs := hb.size
  simp only [World.size_alloc] at hs
  have h0 : Below w.heap.size w (((w.alloc (.cells c1 T1)).alloc (.cells c2 T2)).alloc (.cells c3 T3)) := by (repeat' (first | (with_reducible refine Below.setCell ?_ ?_ _) | (with_reducible refine Below.alloc ?_ ?_ _) | (with_reducible refine Below.drew ?_) | (with_reducible assumption) | (with_reducible exact Below.refl _ _) | (simp only [World.size_alloc, World.size_setCell, World.size_drew]; done) | (simp only [World.size_alloc, World.size_setCell, World.size_drew]; omega) | omega))
  refine ⟨(((Cells.new w c1 T1).alloc _).alloc _).below hb (by simp; omega), ?_, ?_, h0.trans (hb.mono h0.size)⟩
  · have h := ((Cells.new (w.alloc (.cells c1 T1)) c2 T2).alloc (.cells c3 T3)).below hb (by simp)
    simpa using h
  · have h := (Cells.new ((w.alloc (.cells c1 T1)).alloc (.cells c2 T2)) c3 T3).below hb (by simp)
    simpa using h

theorem FixW.set {b2 b3 b4 b5 base : Nat} {A : Array Value} {a1 : Int} {v5 : Value} {ss : List (Nat × Tree)} {w W : World} (h : FixW b2 b3 b4 b5 base A a1 v5 ss w W) {g : Nat} {cs : Array Value} (hc : Cells W g cs 3) (n2 : g ≠ b2) (n3 : g ≠ b3) (n4 : g ≠ b4) (n5 : g ≠ b5) (hw : w.heap.size ≤ g) (j : Nat) (v : Value) :
    FixW b2 b3 b4 b5 base A a1 v5 ss w (W.setCell ⟨g, j, none⟩ v) := by
  obtain ⟨h1, h2, h3, h4, ⟨L, q1, q2, q3⟩, h6⟩ := h
  exact ⟨h1.setOther _ _ n2, h2.setOther _ _ n3, h3.setOther _ _ n4, h4.setOther _ _ n5, ⟨L, q1, q2, ownsRow_setCell_other q3 (fun e => owns_ne_box q3 hc (by decide) e.symm) v⟩, h6.setCell hw v⟩
theorem KpW.set (b j : Nat) (A : World) (v : Value) : KpW b b A (A.setCell ⟨b, j, none⟩ v) :=
  ⟨by rw [World.size_setCell]; exact Nat.le_refl _, fun k o n1 _ ho _ => (Below.heap_setCell _ _ _ _ n1).trans ho⟩
theorem keeps_set {w w' : World} (h : Below w.heap.size w w') (a : Addr) (v : Value) (B : Nat) : KeepsFrom B w (w'.setCell a v) :=
  ((KeepsOthers.of_grownBy (grown_none h) (fun j o e => by cases e)).trans (KeepsOthers.setCell _ _ _)).from B

set_option maxHeartbeats 4000000 in
set_option maxRecDepth 100000 in
theorem TreeWalks_walk (c0 : List Value) (t0 : Tree) (a1 : Int) (w : World) (w0 : ValAt w t0 c0) (w1 : (Lit.int .u8 a1).wf = true) (hT : Tab w) (hf : Fits t0) :
    Calls Tryd.prog 3 #[valV c0, .int .u8 a1] w fun e w' => e = .returned (.bool true) ∧ Below w.heap.size w w' := by
  refine (callsIn_wide (n := 9)).1 ?_
  have HV0 := Lib.hid w0
  have ha : 0 ≤ a1 ∧ a1 ≤ 255 := by simp [Lit.wf, IntKind.min, IntKind.max, IntKind.signed, IntKind.bits] at w1; omega
  obtain ⟨kind, is, neg, digits, exp, str, ka, kn, kc, sa, sn, sc, rfl⟩ : ∃ kind is neg digits exp str ka kn kc sa sn sc, c0 = [.int .i64 kind, .bool is, .bool neg, .string digits, .int .i64 exp, .string str, .slice ka kn kc, .slice sa sn sc] := by
    cases t0
    simp only [ValAt] at w0
    obtain ⟨kv, a, cap, rfl, h2, -⟩ := w0
    obtain ⟨ka, kc, rfl, -⟩ := h2.len
    exact ⟨_, _, _, _, _, _, _, _, _, _, _, _, rfl⟩
  clear w0 w1
  have hb0 : Below w.heap.size w (((w.alloc (.cells #[.int .i64 kind, .bool is, .bool neg, .string digits, .int .i64 exp, .string str, .slice ka kn kc, .slice sa sn sc] 27)).alloc (.cells #[.int .u8 a1] 5)).alloc (.cells #[.bool false] 4)) := by (repeat' (first | (with_reducible refine Below.setCell ?_ ?_ _) | (with_reducible refine Below.alloc ?_ ?_ _) | (with_reducible refine Below.drew ?_) | (with_reducible assumption) | (with_reducible exact Below.refl _ _) | (simp only [World.size_alloc, World.size_setCell, World.size_drew]; done) | (simp only [World.size_alloc, World.size_setCell, World.size_drew]; omega) | omega))
  have hwk := twakes_any _ (hT.below hb0 hT.pos)
  clear hb0
  refine callsIn_of_wp_marks Tryd.func3 rfl trivial ?_ rfl
  simp only [Tryd.ntmps3, List.size_toArray, List.length_cons, List.length_nil, Nat.reduceAdd, Nat.reduceSub, Array.replicate_succ, Array.replicate_zero, List.push_toArray, List.append_toArray, List.nil_append, List.cons_append]
  simp only [valV]
  gi_wp2_with (with_reducible fail)
  refine ⟨trivial, (callsIn_wide.2 hwk).mono ?_⟩
  clear hwk
  rintro e w3 ⟨rfl, hb3⟩
  obtain ⟨h2, h3, h4, hbw⟩ := three_after hb3
  clear hb3
  have hG := Great_any t0 hf w3 _ (ValAt.below hbw _ _ HV0.out)
  have l2 := h2.lt
  have l3 := h3.lt
  have l4 := h4.lt
  have H := Lib.hid (And.intro h2 (And.intro h3 (And.intro h4 hbw)))
  simp only [valV] at hG
  have h2c0 := h2.cell 0 _ rfl
  have h2f0 := h2.frozen 0
  have h2c1 := h2.cell 1 _ rfl
  have h2f1 := h2.frozen 1
  have h2c2 := h2.cell 2 _ rfl
  have h2f2 := h2.frozen 2
  have h2c3 := h2.cell 3 _ rfl
  have h2f3 := h2.frozen 3
  have h2c4 := h2.cell 4 _ rfl
  have h2f4 := h2.frozen 4
  have h2c5 := h2.cell 5 _ rfl
  have h2f5 := h2.frozen 5
  have h2c6 := h2.cell 6 _ rfl
  have h2f6 := h2.frozen 6
  have h2c7 := h2.cell 7 _ rfl
  have h2f7 := h2.frozen 7
  clear h2 h3 h4 hbw
  gi_wp2_with (with_reducible fail)
  refine ⟨trivial, (callsIn_wide.2 hG).mono ?_⟩
  clear hG h2c0 h2c1 h2c2 h2c3 h2c4 h2c5 h2c6 h2c7 h2f0 h2f1 h2f2 h2f3 h2f4 h2f5 h2f6 h2f7
  rintro e w4 ⟨⟨b, rfl, hgb⟩, hb4⟩
  obtain ⟨h2, h3, h4, hbw⟩ := H.out
  replace h2 := h2.below hb4 l2
  replace h3 := h3.below hb4 l3
  replace h4 := h4.below hb4 l4
  replace hbw := hbw.trans (hb4.mono hbw.size)
  clear H hb4 l2 l3 l4
  have l2 := h2.lt
  have l3 := h3.lt
  have l4 := h4.lt
  have HGB := Lib.hid hgb
  clear hgb
  cases b
  · have hkt : t0.bulk ≤ 20000 := HGB.out rfl
    clear HGB
    have hW := rWalk_upto t0.bulk t0 (Nat.le_refl _) (by omega) 0 (by omega) w w4 _ hbw HV0.out
    have H := Lib.hid (And.intro h2 (And.intro h3 (And.intro h4 hbw)))
    simp only [valV, Int.natCast_zero, Int.ofNat_zero, Int.cast_ofNat_Int] at hW
    have h2c0 := h2.cell 0 _ rfl
    have h2f0 := h2.frozen 0
    have h2c1 := h2.cell 1 _ rfl
    have h2f1 := h2.frozen 1
    have h2c2 := h2.cell 2 _ rfl
    have h2f2 := h2.frozen 2
    have h2c3 := h2.cell 3 _ rfl
    have h2f3 := h2.frozen 3
    have h2c4 := h2.cell 4 _ rfl
    have h2f4 := h2.frozen 4
    have h2c5 := h2.cell 5 _ rfl
    have h2f5 := h2.frozen 5
    have h2c6 := h2.cell 6 _ rfl
    have h2f6 := h2.frozen 6
    have h2c7 := h2.cell 7 _ rfl
    have h2f7 := h2.frozen 7
    clear h2 h3 h4 hbw
    gi_wp2_with (with_reducible fail)
    refine ⟨trivial, (callsIn_wide.2 hW).mono ?_⟩
    clear hW h2c0 h2c1 h2c2 h2c3 h2c4 h2c5 h2c6 h2c7 h2f0 h2f1 h2f2 h2f3 h2f4 h2f5 h2f6 h2f7
    rintro e w5 ⟨⟨v5, rfl, hsp⟩, hb5⟩
    obtain ⟨h2, h3, h4, hbw⟩ := H.out
    replace h2 := h2.below hb5 l2
    replace h3 := h3.below hb5 l3
    replace h4 := h4.below hb5 l4
    replace hbw := hbw.trans (hb5.mono hbw.size)
    have hs5 := hb5.size
    clear H hb5
    obtain ⟨g5, cap5, rfl⟩ : ∃ g cap, v5 = .slice (some ⟨g, 0, none⟩) (spots 0 t0).length cap := by
      obtain ⟨L, _, _, h⟩ := hsp
      exact owns_shape h (spots_pos 0 t0)
    have hbA : Below w5.heap.size w5 ((w5.alloc (.cells #[.slice (some ⟨g5, 0, none⟩) (spots 0 t0).length cap5] 30)).alloc (.cells #[.int .i64 0] 3)) := by (repeat' (first | (with_reducible refine Below.setCell ?_ ?_ _) | (with_reducible refine Below.alloc ?_ ?_ _) | (with_reducible refine Below.drew ?_) | (with_reducible assumption) | (with_reducible exact Below.refl _ _) | (simp only [World.size_alloc, World.size_setCell, World.size_drew]; done) | (simp only [World.size_alloc, World.size_setCell, World.size_drew]; omega) | omega))
    have hT0 := Walk_any t0 (by omega) _ _ (ValAt.below (hbw.trans (hbA.mono hbw.size)) _ _ HV0.out)
    have H := Lib.hid (And.intro h2 (And.intro h3 (And.intro h4 (And.intro hbw hsp))))
    have hl2 : w.heap.size < w5.heap.size := by omega
    have h2c0 := h2.cell 0 _ rfl
    have h2f0 := h2.frozen 0
    have h2c1 := h2.cell 1 _ rfl
    have h2f1 := h2.frozen 1
    have h2c2 := h2.cell 2 _ rfl
    have h2f2 := h2.frozen 2
    have h2c3 := h2.cell 3 _ rfl
    have h2f3 := h2.frozen 3
    have h2c4 := h2.cell 4 _ rfl
    have h2f4 := h2.frozen 4
    have h2c5 := h2.cell 5 _ rfl
    have h2f5 := h2.frozen 5
    have h2c6 := h2.cell 6 _ rfl
    have h2f6 := h2.frozen 6
    have h2c7 := h2.cell 7 _ rfl
    have h2f7 := h2.frozen 7
    clear h2 h3 h4 hbw hsp hbA
    simp only [valV] at hT0
    gi_wp2_with (with_reducible fail)
    refine ⟨trivial, (callsIn_wide.2 hT0).mono ?_⟩
    clear hT0 h2c0 h2c1 h2c2 h2c3 h2c4 h2c5 h2c6 h2c7 h2f0 h2f1 h2f2 h2f3 h2f4 h2f5 h2f6 h2f7
    rintro e w7 ⟨⟨X, cs7, rfl, hX, hin7, hX7⟩, hb7⟩
    have hneq : ∀ W, Sem.run Tryd.prog (binOp .neq 33 (Value.func (Fn.func 48) #[] #[Value.pointer (some { block := X, off := 0 })]) Value.nilFunc) W = .ok (.bool true) W := fun W => by rfl
    gi_wp2_with (with_reducible fail)
    obtain ⟨h2, h3, h4, hbw, hsp⟩ := H.out
    have hbC : Below w5.heap.size w5 w7 := Below.trans (by (repeat' (first | (with_reducible refine Below.setCell ?_ ?_ _) | (with_reducible refine Below.alloc ?_ ?_ _) | (with_reducible refine Below.drew ?_) | (with_reducible assumption) | (with_reducible exact Below.refl _ _) | (simp only [World.size_alloc, World.size_setCell, World.size_drew]; done) | (simp only [World.size_alloc, World.size_setCell, World.size_drew]; omega) | omega))) (hb7.mono (by simp; omega))
    have k2 := h2.below hbC h2.lt
    have k3 := h3.below hbC h3.lt
    have k4 := h4.below hbC h4.lt
    have kb := hbw.trans (hbC.mono hbw.size)
    have ks := hsp.moved hbC
    have k5 : Cells w7 w5.heap.size #[.slice (some ⟨g5, 0, none⟩) (spots 0 t0).length cap5] 30 := ((Cells.new w5 _ _).alloc _).below hb7 (by simp; omega)
    have k6 : Cells w7 (w5.heap.size + 1) #[.int .i64 0] 3 := by
      have h := (Cells.new (w5.alloc (.cells #[.slice (some ⟨g5, 0, none⟩) (spots 0 t0).length cap5] 30)) #[.int .i64 0] 3).below hb7 (by simp)
      simpa using h
    have hX7' : w5.heap.size + 2 ≤ X := by simpa using hX7
    have z7 := k6.lt
    have hgood := walk_good (9 - 1) X (w5.heap.size + 1) (w5.heap.size + 1) _ (fun k hk => ⟨by have := hk.1; simp at this; omega, by have := hk.1; simp at this; omega⟩) t0 (by omega) cs7 w7 ⟨z7, z7⟩ hX hin7
    clear H h2 h3 h4 hbw hsp hb7 hbC hneq hX hin7 hX7
    obtain ⟨I, hI⟩ : ∃ I : List Tx → World → Prop, I = (fun pre W => (Cells W (w5.heap.size + 1) #[.int .i64 (pre.length : Int)] 3 ∧ (pre.length : Int) ≤ a1 ∧ pre.map keyT = (spots 0 t0).take pre.length) ∧ FixW w.heap.size (w.heap.size + 1) (w.heap.size + 1 + 1) w5.heap.size w4.heap.size #[.int .i64 kind, .bool is, .bool neg, .string digits, .int .i64 exp, .string str, .slice ka kn kc, .slice sa sn sc] a1 (.slice (some ⟨g5, 0, none⟩) (spots 0 t0).length cap5) (spots 0 t0) w W) := ⟨_, rfl⟩
    have hIown : OwnFrom w7.heap.size I := by
      subst hI
      intro pre U U' row ⟨⟨q1, q2, q3⟩, q4⟩ hg hr
      have hk := KpA.grown hg (fun r e => (hr r e).2)
      exact ⟨⟨hk.cells q1, q2, q3⟩, q4.step hg (fun r e => ⟨Nat.le_trans kb.size (hr r e).1, (hr r e).2⟩)⟩
    obtain ⟨Ix, hIx⟩ : ∃ Ix : Code → List Tx → World → Prop, Ix = (fun c pre W => ∃ d x, pre = d ++ [x] ∧ ((c = .exit 0 ∧ (d.length : Int) = a1 ∧ I d W) ∨ (c = .ret ∧ (spots 0 t0)[d.length]? ≠ some (keyT x)))) := ⟨_, rfl⟩
    have hIxown : ∀ c, OwnFrom w7.heap.size (Ix c) := by
      subst hIx
      exact fun c s U U' row ⟨d, x, q1, q2⟩ hg hr => ⟨d, x, q1, q2.imp (fun ⟨h1, h2, h3⟩ => ⟨h1, h2, hIown d U U' row h3 hg hr⟩) id⟩
    have HI := Lib.hid hI
    have HIx := Lib.hid hIx
    clear hI hIx
    refine wpIn_rangeFunc_good rfl (by omega) (gf := 48) (lb := #[.pointer (some ⟨X, 0, none⟩)]) rfl trivial (enters_of Tryd.func48 (by kernel_rfl) rfl)
      hgood KpW.trans (fun W l o o' _ ho hc _ => KpW.put ho hc) (Below.refl _ _) (fun _ => rfl)
      I Ix hIown hIxown (by rw [HI.out]; exact ⟨⟨k6, ha.1, by simp⟩, k2, k3, k4, k5, ks, kb⟩)
      (fun x a' W => ∃ (pX : Nat) (xkind : Int) (xis xneg : Bool) (xdig : ByteArray) (xexp : Int) (xstr : ByteArray) (xka : Option Addr) (xkn xkc : Nat) (xsa : Option Addr) (xsn xsc : Nat), x.2.2 = [.int .i64 xkind, .bool xis, .bool xneg, .string xdig, .int .i64 xexp, .string xstr, .slice xka xkn xkc, .slice xsa xsn xsc] ∧ a' = { tmps := #[.agg #[.int .i64 kind, .bool is, .bool neg, .string digits, .int .i64 exp, .string str, .slice ka kn kc, .slice sa sn sc], .int .u8 a1, .pointer (some ⟨w.heap.size, 0, none⟩), .pointer (some ⟨w.heap.size + 1, 0, none⟩), .pointer (some ⟨w.heap.size + 1 + 1, 0, none⟩), .pointer (some ⟨w5.heap.size, 0, none⟩), .pointer (some ⟨w5.heap.size + 1, 0, none⟩), .func (.func 48) #[] #[.pointer (some ⟨X, 0, none⟩)], .int .i64 (x.1 : Nat), .pointer (some ⟨pX, 0, none⟩), .bool true, .bool false, .agg #[.int .i64 kind, .bool is, .bool neg, .string digits, .int .i64 exp, .string str, .slice ka kn kc, .slice sa sn sc], .bool false, .agg #[.int .i64 kind, .bool is, .bool neg, .string digits, .int .i64 exp, .string str, .slice ka kn kc, .slice sa sn sc], .slice (some ⟨g5, 0, none⟩) (spots 0 t0).length cap5, .agg #[.int .i64 kind, .bool is, .bool neg, .string digits, .int .i64 exp, .string str, .slice ka kn kc, .slice sa sn sc], .func (.func 48) #[] #[.pointer (some ⟨X, 0, none⟩)], .func (.func 48) #[] #[.pointer (some ⟨X, 0, none⟩)], .bool true, .func (.func 48) #[] #[.pointer (some ⟨X, 0, none⟩)], .int .i64 (x.1 : Nat), .agg #[.int .i64 xkind, .bool xis, .bool xneg, .string xdig, .int .i64 xexp, .string xstr, .slice xka xkn xkc, .slice xsa xsn xsc], undef, undef, undef, undef, undef, undef, undef, undef, undef, undef, undef, undef, undef, undef, undef, undef, undef, undef, undef, undef, undef, undef, undef, undef, undef, undef, undef, undef, undef, undef, undef, undef, undef, undef, undef, undef], defers := [] } ∧
        Cells W pX #[.int .i64 xkind, .bool xis, .bool xneg, .string xdig, .int .i64 xexp, .string xstr, .slice xka xkn xkc, .slice xsa xsn xsc] 27 ∧ ValAt W x.2.1 x.2.2 ∧ pX ≠ w5.heap.size + 1)
      (fun x a' _ U U' row ⟨pX, x1, x2, x3, x4, x5, x6, x7, x8, x9, xa, xb, xcc, q1, q2, q3, q4, q5⟩ hg hr => by
        have hk := KpA.grown hg (fun r e => (hr r e).2)
        exact ⟨pX, x1, x2, x3, x4, x5, x6, x7, x8, x9, xa, xb, xcc, q1, q2, hk.cells q3, ValAt.kpa hk _ _ q4, q5⟩) ?assign ?body ?done ?stop
    case assign =>
      rintro l pre ⟨xd, xt, xc⟩ W K hI2 hgd hK
      have hgd2 := hgd
      obtain ⟨xkind, xis, xneg, xdig, xexp, xstr, xka, xkn, xkc, xsa, xsn, xsc, rfl⟩ := hgd.shapeS
      simp only [encT, valV, List.size_toArray, List.length_cons, List.length_nil]
      gi_wp2
      have hI3 := hI2
      rw [HI.out] at hI3
      have h6 := hI3.1.1.lt
      exact hK _ _ ((KeepsOthers.alloc W _).from _) (KpW.below ((Below.refl _ W).alloc (Nat.le_refl _) _)) (hIown.alloc _ hI2)
        ⟨W.heap.size, xkind, xis, xneg, xdig, xexp, xstr, xka, xkn, xkc, xsa, xsn, xsc, rfl, rfl, Cells.new W _ _, hgd2.below_alloc _, by omega⟩
    case body =>
      rintro l pre ⟨xd, xt, xc⟩ a' W hl hI2 ⟨pX, xkind, xis, xneg, xdig, xexp, xstr, xka, xkn, xkc, xsa, xsn, xsc, rfl, rfl, hcx, hvx, hpX⟩ hlt
      have hI3 := hI2
      rw [HI.out] at hI3
      obtain ⟨⟨q6, qle, qmap⟩, q2, q3, q4, q5, qs, qb⟩ := hI3
      by_cases hst : (pre.length : Int) < a1
      · have c6 := q6.cell 0 _ rfl
        have c3 := q3.cell 0 _ rfl
        have hplen : pre.length ≤ 255 := by omega
        obtain ⟨scs, sv, s0, sc⟩ := qs.at hlt
        obtain ⟨skind, sis, sneg, sdig, sexp, sstr, ska, skn, skc, ssa, ssn, ssc, rfl⟩ := sv.shapeS
        have hg5 := World.block_lt_of_cell? W _ s0
        obtain ⟨b, hb⟩ := some_bool (xt = ((spots 0 t0)[pre.length]).2)
        have hcall := fun (x : Under W) (m : Nat) => Under.callIn (l := l) (n := m) x (SameP.fix hb (rSame_any _ _ x.w _ _ (ValAt.below x.below _ _ hvx) (ValAt.below (qb.trans (x.below.mono qb.size)) _ _ sv)))
        have HBB := Lib.hid hb
        have u6 := fun x : Under W => (x.below.cell (p := ⟨w5.heap.size + 1, 0, none⟩) q6.lt).trans (q6.cell 0 _ rfl)
        have u5 := fun x : Under W => (x.below.cell (p := ⟨w5.heap.size, 0, none⟩) q5.lt).trans (q5.cell 0 _ rfl)
        have us := fun x : Under W => (x.below.cell (p := ⟨g5, pre.length * 9, none⟩) hg5).trans s0
        have us0 := fun x : Under W => (x.below.cell (p := ⟨g5, pre.length * 9 + 1, none⟩) hg5).trans ((congrArg (fun o => W.cell? ⟨g5, o, none⟩) (by omega : pre.length * 9 + 1 = pre.length * 9 + (0 + 1))).trans (sc 0 _ rfl))
        have us1 := fun x : Under W => (x.below.cell (p := ⟨g5, pre.length * 9 + 1 + 1, none⟩) hg5).trans ((congrArg (fun o => W.cell? ⟨g5, o, none⟩) (by omega : pre.length * 9 + 1 + 1 = pre.length * 9 + (1 + 1))).trans (sc 1 _ rfl))
        have us2 := fun x : Under W => (x.below.cell (p := ⟨g5, pre.length * 9 + 1 + 2, none⟩) hg5).trans ((congrArg (fun o => W.cell? ⟨g5, o, none⟩) (by omega : pre.length * 9 + 1 + 2 = pre.length * 9 + (2 + 1))).trans (sc 2 _ rfl))
        have us3 := fun x : Under W => (x.below.cell (p := ⟨g5, pre.length * 9 + 1 + 3, none⟩) hg5).trans ((congrArg (fun o => W.cell? ⟨g5, o, none⟩) (by omega : pre.length * 9 + 1 + 3 = pre.length * 9 + (3 + 1))).trans (sc 3 _ rfl))
        have us4 := fun x : Under W => (x.below.cell (p := ⟨g5, pre.length * 9 + 1 + 4, none⟩) hg5).trans ((congrArg (fun o => W.cell? ⟨g5, o, none⟩) (by omega : pre.length * 9 + 1 + 4 = pre.length * 9 + (4 + 1))).trans (sc 4 _ rfl))
        have us5 := fun x : Under W => (x.below.cell (p := ⟨g5, pre.length * 9 + 1 + 5, none⟩) hg5).trans ((congrArg (fun o => W.cell? ⟨g5, o, none⟩) (by omega : pre.length * 9 + 1 + 5 = pre.length * 9 + (5 + 1))).trans (sc 5 _ rfl))
        have us6 := fun x : Under W => (x.below.cell (p := ⟨g5, pre.length * 9 + 1 + 6, none⟩) hg5).trans ((congrArg (fun o => W.cell? ⟨g5, o, none⟩) (by omega : pre.length * 9 + 1 + 6 = pre.length * 9 + (6 + 1))).trans (sc 6 _ rfl))
        have us7 := fun x : Under W => (x.below.cell (p := ⟨g5, pre.length * 9 + 1 + 7, none⟩) hg5).trans ((congrArg (fun o => W.cell? ⟨g5, o, none⟩) (by omega : pre.length * 9 + 1 + 7 = pre.length * 9 + (7 + 1))).trans (sc 7 _ rfl))
        have ux0 := fun x : Under W => (x.below.cell (p := ⟨pX, 0, none⟩) hcx.lt).trans (hcx.cell 0 _ rfl)
        have ux1 := fun x : Under W => (x.below.cell (p := ⟨pX, 1, none⟩) hcx.lt).trans (hcx.cell 1 _ rfl)
        have ux2 := fun x : Under W => (x.below.cell (p := ⟨pX, 2, none⟩) hcx.lt).trans (hcx.cell 2 _ rfl)
        have ux3 := fun x : Under W => (x.below.cell (p := ⟨pX, 3, none⟩) hcx.lt).trans (hcx.cell 3 _ rfl)
        have ux4 := fun x : Under W => (x.below.cell (p := ⟨pX, 4, none⟩) hcx.lt).trans (hcx.cell 4 _ rfl)
        have ux5 := fun x : Under W => (x.below.cell (p := ⟨pX, 5, none⟩) hcx.lt).trans (hcx.cell 5 _ rfl)
        have ux6 := fun x : Under W => (x.below.cell (p := ⟨pX, 6, none⟩) hcx.lt).trans (hcx.cell 6 _ rfl)
        have ux7 := fun x : Under W => (x.below.cell (p := ⟨pX, 7, none⟩) hcx.lt).trans (hcx.cell 7 _ rfl)
        have hge : decide (((spots 0 t0).length : Int) ≤ (pre.length : Int)) = false := by rw [decide_eq_false_iff_not]; omega
        have hge2 : decide ((spots 0 t0).length ≤ pre.length) = false := by rw [decide_eq_false_iff_not]; omega
        obtain ⟨key, hkey⟩ : ∃ key, key = (spots 0 t0)[pre.length] := ⟨_, rfl⟩
        have HKEY : Hid ((spots 0 t0)[pre.length]? = some key) := Lib.hid (by rw [hkey, List.getElem?_eq_getElem])
        have HTK : Hid ((spots 0 t0).take (pre.length + 1) = (spots 0 t0).take pre.length ++ [key]) := Lib.hid (by rw [hkey]; exact List.take_succ_eq_append_getElem hlt)
        rw [← hkey] at HBB sv us
        clear hkey hb s0 sc
        obtain ⟨sd, st⟩ := key
        simp only at HBB sv us
        have HV := Lib.hid sv
        have HQ := Lib.hid (And.intro qmap (And.intro (And.intro q6 (And.intro q2 (And.intro q3 q4))) (And.intro hI2 (And.intro hvx hpX))))
        have HQ2 := Lib.hid (And.intro q5 (And.intro qs qb))
        clear sv qmap hI2 hpX qs
        gi_wp2
        by_cases hdeep : (xd : Int) = (sd : Int)
        · refine wpIn_region_under W (by kernel_rfl) (by kernel_rfl) (by kernel_rfl) (Below.refl _ _) ?_
          simp only [valV] at hcall
          have h18 : Fence.wide.fn 18 := trivial
          repeat (gi_big_quiet_step ((first | exact hcall _ _ | exact ⟨fun _ => by omega, hcall _ _⟩ | exact ⟨rfl, fun _ => by omega, hcall _ _⟩ | exact ⟨trivial, fun _ => by omega, hcall _ _⟩)))
          refine wpQuietIn_nil ?_
          rintro _ ⟨x, rfl⟩
          cases b
          · clear hcall u6 u5 us us0 us1 us2 us3 us4 us5 us6 us7 ux0 ux1 ux2 ux3 ux4 ux5 ux6 ux7 c6 c3
            have r4 := q4.below x.below q4.lt
            have r4c0 := r4.cell 0 _ rfl
            have r4f0 := r4.frozen 0
            gi_wp2
            refine ⟨keeps_set x.below _ _ _, ?_⟩
            rw [HIx.out]
            refine ⟨pre, _, rfl, .inr ⟨rfl, ?_⟩⟩
            rw [HKEY.out]
            intro h
            injection h with h
            injection h with h1 h2
            have := HBB.out.2 h2.symm
            cases this
          · clear hcall u6 u5 us us0 us1 us2 us3 us4 us5 us6 us7 ux0 ux1 ux2 ux3 ux4 ux5 ux6 ux7 c6 c3
            have r6 := q6.below x.below q6.lt
            have r6c0 := r6.cell 0 _ rfl
            have r6f0 := r6.frozen 0
            gi_wp2
            have hxt := HBB.out.1 (by trivial)
            have hxd : xd = sd := by omega
            subst hxt hxd
            have hxb := x.below
            have hF : FixW _ _ _ _ _ _ _ _ _ w W := ⟨q2, q3, q4, q5, HQ2.out.2.1, qb⟩
            have hF2 := hF.step (grown_none hxb) (fun r e => by cases e)
            refine ⟨keeps_set hxb _ _ _, (KpW.below hxb).trans (KpW.set _ _ _ _), ?_⟩
            rw [HI.out]
            refine ⟨⟨?_, by simp; omega, ?_⟩, hF2.set r6 (by omega) (by omega) (by omega) (by omega) (by omega) _ _⟩
            · have hs := r6.setI 0 (.int .i64 ((pre.length : Int) + 1))
              simpa using hs
            · rw [List.map_append, HQ.out.1, List.length_append]
              exact HTK.out.symm
        · have hdn : ((xd : Int) != (sd : Int)) = true := by rw [bne_iff_ne]; exact hdeep
          have HDP := Lib.hid hdeep
          clear hdeep
          refine wpIn_region_under W (by kernel_rfl) (by kernel_rfl) (by kernel_rfl) (Below.refl _ _) ?_
          simp only [valV] at hcall
          have h18 : Fence.wide.fn 18 := trivial
          repeat (gi_big_quiet_step ((first | exact hcall _ _ | exact ⟨fun _ => by omega, hcall _ _⟩ | exact ⟨rfl, fun _ => by omega, hcall _ _⟩ | exact ⟨trivial, fun _ => by omega, hcall _ _⟩)))
          refine wpQuietIn_nil ?_
          rintro _ ⟨x, rfl⟩
          clear hcall u6 u5 us us0 us1 us2 us3 us4 us5 us6 us7 ux0 ux1 ux2 ux3 ux4 ux5 ux6 ux7 c6 c3
          have r4 := q4.below x.below q4.lt
          have r4c0 := r4.cell 0 _ rfl
          have r4f0 := r4.frozen 0
          gi_wp2
          refine ⟨keeps_set x.below _ _ _, ?_⟩
          rw [HIx.out]
          refine ⟨pre, _, rfl, .inr ⟨rfl, ?_⟩⟩
          rw [HKEY.out]
          intro h
          injection h with h
          injection h with h1 h2
          exact HDP.out (by rw [h1])
      · have heq : (pre.length : Int) = a1 := by omega
        have c6 := q6.cell 0 (.int .i64 a1) (by rw [heq]; rfl)
        have c3 := q3.cell 0 _ rfl
        gi_wp2
        refine ⟨KeepsFrom.refl _ _, ?_⟩
        rw [HIx.out]
        exact ⟨pre, (xd, xt, [.int .i64 xkind, .bool xis, .bool xneg, .string xdig, .int .i64 xexp, .string xstr, .slice xka xkn xkc, .slice xsa xsn xsc]), rfl, .inl ⟨rfl, heq, hI2⟩⟩
    case done =>
      rintro D xs W hD hS hI2 hK
      rw [HI.out] at hI2
      obtain ⟨⟨q6, qle, qmap⟩, q2, q3, q4, q5, qs, qb⟩ := hI2
      have hlen : xs.length = (spots 0 t0).length := by rw [← hS, List.length_map]
      clear hgood hS qmap qs
      rw [hlen] at q6 qle
      have q6c0 := q6.cell 0 _ rfl
      have q6f0 := q6.frozen 0
      have q3c0 := q3.cell 0 _ rfl
      have q3f0 := q3.frozen 0
      have q4c0 := q4.cell 0 _ rfl
      have q4f0 := q4.frozen 0
      have q5c0 := q5.cell 0 _ rfl
      have q5f0 := q5.frozen 0
      by_cases hst : (spots 0 t0).length = a1
      · gi_wp2
        have hK2 : (W.setCell ⟨w.heap.size + 1 + 1, 0, none⟩ (.bool true)).heap[D]? = some (.deferred (some [])) := (Below.heap_setCell _ _ _ _ (by show D ≠ w.heap.size + 1 + 1; omega)).trans hK
        have hcl : ((W.setCell ⟨w.heap.size + 1 + 1, 0, none⟩ (.bool true)).putObj D (.deferred none)).cell? ⟨w.heap.size + 1 + 1, 0, none⟩ = some (.bool true) :=
          Cells.cell (cs := #[.bool true]) (t := 4) ((World.putObj_heap_other (by omega)).trans (q4.setI 0 (.bool true))) 0 _ rfl
        have hbz := qb.size
        have hs1 : Below w.heap.size w (W.setCell ⟨w.heap.size + 1 + 1, 0, none⟩ (.bool true)) := qb.setCell (by show w.heap.size ≤ w.heap.size + 1 + 1; omega) _
        have HBE := Lib.hid (hs1.trans (belowK_b (w := w) (Nat.le_refl _) _ D _ (.deferred none) (by omega) hK2 rfl rfl))
        refine ⟨by simp, .inl ⟨_, _, rfl, run_takeDeferred hK2, ?_⟩⟩
        clear hs1 q6 q2 q3 q4 q5 qb hK hK2 q6c0 q6f0 q3c0 q3f0 q4c0 q4f0 q5c0 q5f0 hIown hIxown HI HIx
        exact ⟨.bool true, by simp [results, Tryd.results3, go_sem, hcl], rfl, HBE.out⟩
      · gi_wp2
        have hK2 : (W.setCell ⟨w.heap.size + 1 + 1, 0, none⟩ (.bool true)).heap[D]? = some (.deferred (some [])) := (Below.heap_setCell _ _ _ _ (by show D ≠ w.heap.size + 1 + 1; omega)).trans hK
        have hcl : ((W.setCell ⟨w.heap.size + 1 + 1, 0, none⟩ (.bool true)).putObj D (.deferred none)).cell? ⟨w.heap.size + 1 + 1, 0, none⟩ = some (.bool true) :=
          Cells.cell (cs := #[.bool true]) (t := 4) ((World.putObj_heap_other (by omega)).trans (q4.setI 0 (.bool true))) 0 _ rfl
        have hbz := qb.size
        have hs1 : Below w.heap.size w (W.setCell ⟨w.heap.size + 1 + 1, 0, none⟩ (.bool true)) := qb.setCell (by show w.heap.size ≤ w.heap.size + 1 + 1; omega) _
        have HBE := Lib.hid (hs1.trans (belowK_b (w := w) (Nat.le_refl _) _ D _ (.deferred none) (by omega) hK2 rfl rfl))
        refine ⟨by simp, .inl ⟨_, _, rfl, run_takeDeferred hK2, ?_⟩⟩
        clear hs1 q6 q2 q3 q4 q5 qb hK hK2 q6c0 q6f0 q3c0 q3f0 q4c0 q4f0 q5c0 q5f0 hIown hIxown HI HIx
        exact ⟨.bool true, by simp [results, Tryd.results3, go_sem, hcl], rfl, HBE.out⟩
    case stop =>
      rintro D c pre W hD hpre hx hK
      rw [HIx.out] at hx
      obtain ⟨d, x, rfl, hx⟩ := hx
      obtain ⟨more, hmore⟩ := hpre
      have hlt : d.length < (spots 0 t0).length := by rw [← hmore]; simp
      rcases hx with ⟨rfl, hda, hI2⟩ | ⟨rfl, hne⟩
      · rw [HI.out] at hI2
        obtain ⟨⟨q6, qle, qmap⟩, q2, q3, q4, q5, qs, qb⟩ := hI2
        clear hgood hmore qmap qs
        rw [hda] at q6
        have q6c0 := q6.cell 0 _ rfl
        have q6f0 := q6.frozen 0
        have q3c0 := q3.cell 0 _ rfl
        have q3f0 := q3.frozen 0
        have q4c0 := q4.cell 0 _ rfl
        have q4f0 := q4.frozen 0
        have q5c0 := q5.cell 0 _ rfl
        have q5f0 := q5.frozen 0
        gi_wp2
        have hK2 : (W.setCell ⟨w.heap.size + 1 + 1, 0, none⟩ (.bool true)).heap[D]? = some (.deferred (some [])) := (Below.heap_setCell _ _ _ _ (by show D ≠ w.heap.size + 1 + 1; omega)).trans hK
        have hcl : ((W.setCell ⟨w.heap.size + 1 + 1, 0, none⟩ (.bool true)).putObj D (.deferred none)).cell? ⟨w.heap.size + 1 + 1, 0, none⟩ = some (.bool true) :=
          Cells.cell (cs := #[.bool true]) (t := 4) ((World.putObj_heap_other (by omega)).trans (q4.setI 0 (.bool true))) 0 _ rfl
        have hbz := qb.size
        have hs1 : Below w.heap.size w (W.setCell ⟨w.heap.size + 1 + 1, 0, none⟩ (.bool true)) := qb.setCell (by show w.heap.size ≤ w.heap.size + 1 + 1; omega) _
        have HBE := Lib.hid (hs1.trans (belowK_b (w := w) (Nat.le_refl _) _ D _ (.deferred none) (by omega) hK2 rfl rfl))
        refine ⟨by simp, .inl ⟨_, _, rfl, run_takeDeferred hK2, ?_⟩⟩
        clear hs1 q6 q2 q3 q4 q5 qb hK hK2 q6c0 q6f0 q3c0 q3f0 q4c0 q4f0 q5c0 q5f0 hIown hIxown HI HIx
        exact ⟨.bool true, by simp [results, Tryd.results3, go_sem, hcl], rfl, HBE.out⟩
      · exfalso
        refine hne ?_
        rw [← hmore]
        simp
  · skip
    have h4c0 := h4.cell 0 _ rfl
    have h4f0 := h4.frozen 0
    gi_wp2_with (with_reducible fail)
    refine ⟨.bool true, by simp [results, Tryd.results3, go_sem, *], rfl, ?_⟩
    exact hbw.setCell (by show w.heap.size ≤ w.heap.size + 1 + 1; omega) _
end Go.Proofs.YtpcfhiipkbpmkaaDoor
