/- The walk of a scalar that is written as it is (layer 7). -/
import Derived.Test.YtgkgdmpbcneoiaaDoorQuoC
import Derived.Test.YtgkgdmpbcneoiaaDoorUtfK
import Derived.Sort.QuietIn
import Derived.RegionIn
namespace Go.Proofs.YtgkgdmpbcneoiaaDoor
open Go.RowKit Go.Tab Go.Shelf
attribute [local go_sem] Oper.semAt_some

/-- The first four bytes tell which scalar there is. -/
theorem oneN_take4 (l : List Nat) : oneN (l.take 4) = oneN l := by
  match l with
  | [] => rfl
  | [_] => rfl
  | [_, _] => rfl
  | [_, _, _] => rfl
  | [_, _, _, _] => rfl
  | a :: b :: c :: d :: e :: r => rfl

/-- A method that hands v back; .. -/
def OkW (g : Nat) (s : ByteArray) (w : World) (v : Value) (k' : Nat) (l' : List UInt8) (e : Ending) (w' : World) : Prop :=
  e = .returned v ∧ RdrAt w' g s k' l' ∧ Below g w w'
/-- What scalar does at a place where the bytes L stand. -/
def ScalP (g : Nat) (s : ByteArray) (w : World) (k : Nat) (l : List UInt8) (L : List Nat) (e : Ending) (w' : World) : Prop :=
  ((oneN L).2 ≠ 0 ∧ OkW g s w (.tuple #[]) (k + (oneN L).2) (l ++ un (L.take (oneN L).2)) e w') ∨ ((oneN L).2 = 0 ∧ BadR g w 7 e w')

theorem extract_bs (s : ByteArray) (a b : Nat) : bs (s.extract a b) = ((bs s).drop a).take (b - a) := by
  simp [bs, List.map_drop, List.map_take, List.drop_take]

/-- What Put hands back. -/
def putX (c : Nat) : List UInt8 := if isSc c then putU c else []
theorem putX_len (c : Nat) : (putX c).length ≤ 4 := by
  unfold putX
  split
  · rw [putU_length]; exact (wid_pos c).2
  · simp
theorem PutX_any (c : Nat) (w : World) : Calls Tryd.prog 36 #[.int .i64 c] w fun e w' => e = .returned (.tuple #[.string (strOf (putX c)), .bool (isSc c)]) ∧ Below w.heap.size w w' := by
  unfold putX
  cases h : isSc c with
  | true =>
    refine (Put_any c w h).mono ?_
    rintro e w' ⟨rfl, hb⟩
    exact ⟨by simp, hb⟩
  | false =>
    refine (Put_none (c : Int) w (by rw [isScI_nat]; exact h)).mono ?_
    rintro e w' ⟨rfl, rfl⟩
    exact ⟨rfl, Below.refl _ _⟩

theorem RdrAt.kept {w w' : World} {g : Nat} {s : ByteArray} {k : Nat} {l : List UInt8} {row : Option Nat} (h : RdrAt w g s k l) (hg : w.grownBy w' row) (hr : ∀ r, row = some r → ∃ o : Obj, w.heap[r]? = some o ∧ o.isCells = false) : RdrAt w' g s k l := by
  obtain ⟨cs, ⟨h1, h2, v, h3, h4⟩, h5⟩ := h
  have hrow : v.ownBlock = none ∨ v.ownBlock ≠ row := by
    cases hv : v.ownBlock with
    | none => exact .inl rfl
    | some b =>
      refine .inr fun e => ?_
      obtain ⟨o, ho, hc⟩ := hr _ e.symm
      obtain ⟨cs', fr, hb⟩ := own_is_row h4 b hv
      rw [hb] at ho; cases ho; cases hc
  refine ⟨cs, ⟨h1.kept hg ?_, h2, v, h3, h4.kept hg hrow⟩, h5⟩
  intro e
  obtain ⟨o, ho, hc⟩ := hr _ e.symm
  rw [show w.heap[g]? = _ from h1] at ho; cases ho; cases hc
theorem keeps_beside {E : TypeId} {B g : Nat} {w w' : World} {cs : Array Value} {t : TypeId} (h : Beside E g w w') (hg : Cells w g cs t) : KeepsFrom B w w' :=
  ⟨h.1, fun k o _ hk ho => h.2 k o (by rintro rfl; rw [show w.heap[k]? = _ from hg] at hk; cases hk; cases ho) hk (fun cs' fr e => by subst e; cases ho)⟩

/-- Between two rounds: nothing has come. -/
def ScI (w : World) (g : Nat) (s : ByteArray) (k : Nat) (l : List UInt8) (pre : List (Nat × Nat)) (W : World) : Prop :=
  (pre = [] ∧ RdrAt W g s k l ∧ Cells W w.heap.size #[.pointer (some ⟨g, 0, none⟩)] 39) ∧ Below g w W
def ScX (w : World) (g : Nat) (s : ByteArray) (k : Nat) (l : List UInt8) (c : Code) (pre : List (Nat × Nat)) (W : World) : Prop :=
  (c = .ret ∧ ∃ x : Nat × Nat, pre = [x] ∧ RdrAt W g s (k + (putX x.2).length) (l ++ putX x.2)) ∧ Below g w W
theorem ScI_own (w : World) (g : Nat) (s : ByteArray) (k : Nat) (l : List UInt8) (L : Nat) (hg : g ≤ w.heap.size) (hL : g ≤ L) : OwnFrom L (ScI w g s k l) :=
  OwnFrom.and (Own.from (fun pre A B row hs hg' hr => ⟨hs.1, hs.2.1.kept hg' hr, hs.2.2.kept hg' (fun e' => by
    obtain ⟨o, ho, hc⟩ := hr _ e'.symm
    rw [show A.heap[w.heap.size]? = _ from hs.2.2] at ho; cases ho; cases hc)⟩) _) (ownFrom_below hg hL)
theorem ScX_own (w : World) (g : Nat) (s : ByteArray) (k : Nat) (l : List UInt8) (L : Nat) (hg : g ≤ w.heap.size) (hL : g ≤ L) (c : Code) : OwnFrom L (ScX w g s k l c) :=
  OwnFrom.and (Own.from (fun pre A B row hs hg' hr => by
    obtain ⟨h1, x, h2, h3⟩ := hs
    exact ⟨h1, x, h2, h3.kept hg' hr⟩) _) (ownFrom_below hg hL)

theorem TwoKept.put (g : Nat) (w : World) (h0 : 0 < w.heap.size) (hg : g < w.heap.size) (W : World) (l : Nat) (o o' : Obj) (hl : w.heap.size ≤ l) (_ : W.heap[l]? = some o) (_ : o.isCells = false) (_ : o.isWalk = false) : TwoKept g W (W.putObj l o') :=
  ⟨(grownBy_putObj' W l o').size, World.putObj_heap_other (by omega), World.putObj_heap_other (by omega)⟩
theorem uAll_stops (n : Nat) (hn : 2 ≤ n) (Bn : Nat) (s : ByteArray) (hs : s.size ≤ 1000000) (w : World) (hBn : Bn < w.heap.size)
    (hc : w.cell? ⟨Bn, 0, none⟩ = some (.string s)) (hT : Tab w) :
    SeqStopsK Fence.wide n Tryd.prog 43 #[.pointer (some ⟨Bn, 0, none⟩)] (fun x : Nat × Nat => #[.int .i64 (x.1 : Nat), .int .i64 (x.2 : Nat)]) (TwoKept Bn) (fun ys => ys = (scan (bs s) 0).1) (fun pre => pre <+: (scan (bs s) 0).1) (scan (bs s) 0).1.length w := fun l0 J Jx W hW _ _ hY h0 =>
  uAll1_in n hn l0 Bn s hs J Jx hY W ((hW.cell (p := ⟨Bn, 0, none⟩) hBn).trans hc) (hT.below hW hT.pos) h0


set_option maxHeartbeats 4000000 in
set_option maxRecDepth 100000 in
theorem scalar_any (w : World) (g : Nat) (s : ByteArray) (k : Nat) (l : List UInt8) (h : RdrAt w g s k l) (hk : k < s.size) (hs : s.size ≤ 100000) (hl : l.length ≤ 1000000) (hT : Tab w) :
    Calls Tryd.prog 29 #[.pointer (some ⟨g, 0, none⟩)] w (ScalP g s w k l ((bs s).drop k)) := by
  refine (callsIn_wide (n := 9)).1 ?_
  have hR0 := h.below ((Below.refl _ w).alloc (Nat.le_refl _) (.cells #[.pointer (some ⟨g, 0, none⟩)] 39))
  have hlt := h.lt
  obtain ⟨cs, hb, h5, h6, h7⟩ := id hR0
  have c0 := hb.cells.cell 0 _ h6
  have c1 := hb.cells.cell 1 _ h7
  have c9 := (Cells.new w #[.pointer (some ⟨g, 0, none⟩)] 39).cell 0 _ rfl
  clear hb h5 h6 h7
  by_cases hk4 : k + 4 ≤ s.size
  · have hmin : min ((k : Int) + 4) (s.size : Int) = (k : Int) + 4 := by omega
    obtain ⟨R, hR⟩ : ∃ R, R = s.extract k ((k : Int) + 4).toNat := ⟨_, rfl⟩
    refine callsIn_of_wp_marks Tryd.func29 rfl trivial ?_ rfl
    simp only [Tryd.ntmps29, List.size_toArray, List.length_cons, List.length_nil, Nat.reduceAdd, Nat.reduceSub, Array.replicate_succ, Array.replicate_zero, List.push_toArray, List.append_toArray, List.nil_append, List.cons_append]
    have hRr := Lib.hid hR
    have hsl : s.extract k ((k : Int) + 4).toNat = R := hR.symm
    gi_wp2
    have hRb : bs R = ((bs s).drop k).take 4 := by rw [hR, extract_bs]; congr 1; omega
    have hRne : bs R ≠ [] := by rw [hRb]; intro h0; have := congrArg List.length h0; simp [bs_length] at this; omega
    clear hR
    gi_quiet (fail)
    have hw0 : ∃ w0, w0 = (w.alloc (.cells #[.pointer (some ⟨g, 0, none⟩)] 39)).drewN nq := ⟨_, rfl⟩
    obtain ⟨w0, hw0⟩ := hw0
    rw [← hw0]
    have hR1 : RdrAt w0 g s k l := by rw [hw0]; exact hR0.drewN _
    have hC1 : Cells w0 w.heap.size #[.pointer (some ⟨g, 0, none⟩)] 39 := by rw [hw0]; exact (Cells.new w _ _).drewN _
    have hb1 : Below w.heap.size w w0 := by rw [hw0]; exact Below.drewN' ((Below.refl _ w).alloc (Nat.le_refl _) _) _
    have hz0 : w0.heap.size = w.heap.size + 1 := by rw [hw0]; simp
    have HA := Lib.hid (uAll_any R w0)
    have HZ := Lib.hid hz0
    clear c0 c1 c9 hw0 hmin hz0
    gi_wp2
    refine ⟨trivial, (callsIn_wide.2 HA.out).mono ?_⟩
    rintro e w1 ⟨rfl, hw1⟩
    clear HA
    have hz0 := HZ.out
    have hz1 : w1.heap.size = w.heap.size + 2 := by rw [hw1]; simp [hz0]
    have hb2' : Below w0.heap.size w0 w1 := by rw [hw1]; exact (Below.refl _ _).alloc (Nat.le_refl _) _
    have hcB : w1.cell? ⟨w.heap.size + 1, 0, none⟩ = some (.string R) := by
      have h := World.cell?_alloc_new (w := w0) #[.string R] 9 0
      rw [hz0] at h
      rw [hw1]; exact h
    have hR2 := hR1.below hb2'
    have hC2 := hC1.below hb2' hC1.lt
    have hb2 : Below w.heap.size w w1 := hb1.trans (hb2'.mono (by omega))
    have hT1 := hT.below hb2 hT.pos
    have h0w := hT.pos
    rw [hz0]
    clear hw1 hb2' hR1 hC1 hb1 hz0
    have hneq : Sem.run Tryd.prog (binOp .neq 64 (Value.func (Fn.func 43) #[] #[Value.pointer (some { block := w.heap.size + 1, off := 0 })]) Value.nilFunc) w1 = .ok (.bool true) w1 := by rfl
    gi_wp2
    have hwL : g ≤ w1.heap.size := by omega
    refine wpIn_rangeFunc_ownG rfl (by omega) (gf := 43) (lb := #[.pointer (some ⟨w.heap.size + 1, 0, none⟩)]) rfl trivial (enters_of Tryd.func43 (by kernel_rfl) rfl)
      (uAll_stops 8 (by omega) (w.heap.size + 1) R (by rw [← bs_length, hRb]; simp; omega) w1 (by omega) hcB hT1) TwoKept.trans (TwoKept.put (w.heap.size + 1) w1 (by omega) (by omega)) (Below.refl _ _) (fun _ => rfl)
      (ScI w g s k l) (ScX w g s k l) (ScI_own w g s k l _ (by omega) hwL) (ScX_own w g s k l _ (by omega) hwL)
      ⟨⟨rfl, hR2, hC2⟩, hb2.mono (by omega)⟩
      (fun x => { tmps := #[.pointer (some ⟨g, 0, none⟩), .pointer (some ⟨w.heap.size, 0, none⟩), .string R, undef, .int .i64 (x.2 : Nat), undef, undef, .pointer (some ⟨g, 0, none⟩), .pointer (some ⟨g, 0, none⟩), .pointer (some ⟨g, 0, none⟩), .string s, .pointer (some ⟨g, 0, none⟩), .pointer (some ⟨g, 0, none⟩), .pointer (some ⟨g, 1, none⟩), .int .i64 (k : Int), .pointer (some ⟨g, 0, none⟩), .pointer (some ⟨g, 0, none⟩), .pointer (some ⟨g, 1, none⟩), .int .i64 (k : Int), .int .i64 ((k : Int) + 4), .pointer (some ⟨g, 0, none⟩), .pointer (some ⟨g, 0, none⟩), .pointer (some ⟨g, 0, none⟩), .string s, .int .i64 (s.size : Int), .int .i64 ((k : Int) + 4), .string R, .string R, .func (.func 43) #[] #[.pointer (some ⟨w.heap.size + 1, 0, none⟩)], .int .i64 (x.1 : Nat), .int .i64 (x.2 : Nat), undef, undef, undef, undef, undef, undef, undef, undef, undef, undef, undef, undef, undef, undef, undef, undef, undef, undef, undef, undef], defers := [] }) ?assign ?body ?done ?stop
    case assign =>
      intro l x W K hK
      gi_wp2
      exact hK
    case body =>
      rintro l0 pre x W ⟨⟨rfl, hRW, hCW⟩, hbW⟩ -
      have hltW := hRW.lt
      have hPX := PutX_any x.2 W
      have hplen := putX_len x.2
      have hpsz : (strOf (putX x.2)).size = (putX x.2).length := strOf_size _
      generalize hpx : putX x.2 = px at *
      have HPX := Lib.hid hpx
      have HPS := Lib.hid hpsz
      clear hpx hpsz
      have hcw := hCW.cell 0 _ rfl
      gi_wp2
      refine ⟨trivial, (CallsIn.inRound l0 (callsIn_wide.2 hPX)).mono ?_⟩
      rintro e w3 ⟨rfl, hb3⟩
      have hz3 := hb3.size
      have hR3 := hRW.below hb3
      have hC3 := hCW.below hb3 hCW.lt
      have hcw3 := hC3.cell 0 _ rfl
      have hWS := rWS w3 g s k l (strOf px) hR3 (by rw [HPS.out]; omega)
      gi_wp2
      refine ⟨trivial, (CallsIn.inRound l0 (callsIn_wide.2 hWS)).mono ?_⟩
      rintro e w4 ⟨rfl, hR4, hb4, hB4⟩
      obtain ⟨cs4, hb4', h54, h64, h74⟩ := id hR4
      have c14 := hb4'.cells.cell 1 _ h74
      have f14 := hb4'.cells.frozen 1
      have hC4 := hB4.cells hC3 (by omega) (by decide)
      have hcw4 := hC4.cell 0 _ rfl
      clear hb4' h54 h64 h74
      have hR5 := hR4.moved (k + px.length)
      obtain ⟨cw, hcw', -⟩ := id hRW
      have hkeep := keeps_beside (B := w1.heap.size) (((Beside.of_below (E := 5) (g := g) hb3).trans hB4).setCell 1 (.int .i64 ((k + px.length : Nat) : Int))) hcw'.cells
      have hbW5 := ((hbW.trans (hb3.mono (by omega))).trans hb4).setCell (p := ⟨g, 1, none⟩) (Nat.le_refl _) (.int .i64 ((k + px.length : Nat) : Int))
      have hl4 := HPS.out
      gi_wp2
      exact ⟨hkeep, ⟨rfl, x, rfl, by rw [HPX.out]; exact hR5⟩, hbW5⟩
    case done =>
      rintro D ys W hD hys ⟨⟨rfl, hRW, hCW⟩, hbW⟩ hK
      have h0 : (oneN ((bs s).drop k)).2 = 0 := by
        rw [← oneN_take4, ← hRb]
        exact Decidable.byContradiction fun hn => by rw [scan_step hRne, if_neg hn] at hys; cases hys
      gi_wp2
      refine ⟨trivial, (callsIn_wide.2 (fail_any 7 W)).mono ?_⟩
      rintro e w3 ⟨rfl, rfl⟩
      gi_wp2
      refine ⟨by simp, .inl ⟨_, _, rfl, run_takeDeferred hK, ?_⟩⟩
      exact .inr ⟨h0, rfl, hbW.trans ((belowK_b (w := w) (Nat.le_refl _) W D _ _ (by omega) hK rfl rfl).mono (by omega))⟩
    case stop =>
      rintro D c pre W hD hpre ⟨⟨rfl, x, rfl, hRW⟩, hbW⟩ hK
      have hx : (oneN ((bs s).drop k)).2 ≠ 0 ∧ putX x.2 = un (((bs s).drop k).take (oneN ((bs s).drop k)).2) ∧ (putX x.2).length = (oneN ((bs s).drop k)).2 := by
        rw [← oneN_take4, ← hRb]
        have hn : (oneN (bs R)).2 ≠ 0 := fun hn => by rw [scan_bad hRne hn] at hpre; simp at hpre
        rw [scan_step hRne, if_neg hn] at hpre
        obtain ⟨t, ht⟩ := hpre
        simp only [List.cons_append, List.nil_append, List.cons.injEq] at ht
        obtain ⟨rfl, -⟩ := ht
        obtain ⟨q1, q2, q3, q4⟩ := put_oneN (l := bs R) (c := (oneN (bs R)).1) (n := (oneN (bs R)).2) bs_lt (by rfl) hn
        have e1 : putX (oneN (bs R)).1 = putU (oneN (bs R)).1 := by unfold putX; rw [if_pos q1]
        refine ⟨hn, ?_, ?_⟩
        · rw [e1]
          show un (putN _) = _
          rw [q3, hRb, List.take_take, Nat.min_eq_left (by rw [← hRb]; exact (oneN_le _ bs_lt).2)]
        · rw [e1, putU_length, q2]
      gi_wp2
      refine ⟨by simp, .inl ⟨_, _, rfl, run_takeDeferred hK, ?_⟩⟩
      refine ⟨_, results_none rfl _ _ _, .inl ⟨hx.1, rfl, ?_, ?_⟩⟩
      · have := hRW.kept (grownBy_putObj' W D (.deferred none)) (fun r e => by cases e; exact ⟨_, hK, rfl⟩)
        rw [hx.2.2, hx.2.1] at this
        exact this
      · exact hbW.trans ((belowK_b (w := w) (Nat.le_refl _) W D _ _ (by omega) hK rfl rfl).mono (by omega))
  · have hmin : min ((k : Int) + 4) (s.size : Int) = (s.size : Int) := by omega
    obtain ⟨R, hR⟩ : ∃ R, R = s.extract k s.size := ⟨_, rfl⟩
    refine callsIn_of_wp_marks Tryd.func29 rfl trivial ?_ rfl
    simp only [Tryd.ntmps29, List.size_toArray, List.length_cons, List.length_nil, Nat.reduceAdd, Nat.reduceSub, Array.replicate_succ, Array.replicate_zero, List.push_toArray, List.append_toArray, List.nil_append, List.cons_append]
    have hRr := Lib.hid hR
    have hsl : s.extract k s.size = R := hR.symm
    gi_wp2
    have hRb : bs R = ((bs s).drop k).take 4 := by rw [hR, extract_bs]; rw [List.take_of_length_le (by simp [bs_length]), List.take_of_length_le (by simp [bs_length]; omega)]
    have hRne : bs R ≠ [] := by rw [hRb]; intro h0; have := congrArg List.length h0; simp [bs_length] at this; omega
    clear hR
    gi_quiet (fail)
    have hw0 : ∃ w0, w0 = (w.alloc (.cells #[.pointer (some ⟨g, 0, none⟩)] 39)).drewN nq := ⟨_, rfl⟩
    obtain ⟨w0, hw0⟩ := hw0
    rw [← hw0]
    have hR1 : RdrAt w0 g s k l := by rw [hw0]; exact hR0.drewN _
    have hC1 : Cells w0 w.heap.size #[.pointer (some ⟨g, 0, none⟩)] 39 := by rw [hw0]; exact (Cells.new w _ _).drewN _
    have hb1 : Below w.heap.size w w0 := by rw [hw0]; exact Below.drewN' ((Below.refl _ w).alloc (Nat.le_refl _) _) _
    have hz0 : w0.heap.size = w.heap.size + 1 := by rw [hw0]; simp
    have HA := Lib.hid (uAll_any R w0)
    have HZ := Lib.hid hz0
    clear c0 c1 c9 hw0 hmin hz0
    gi_wp2
    refine ⟨trivial, (callsIn_wide.2 HA.out).mono ?_⟩
    rintro e w1 ⟨rfl, hw1⟩
    clear HA
    have hz0 := HZ.out
    have hz1 : w1.heap.size = w.heap.size + 2 := by rw [hw1]; simp [hz0]
    have hb2' : Below w0.heap.size w0 w1 := by rw [hw1]; exact (Below.refl _ _).alloc (Nat.le_refl _) _
    have hcB : w1.cell? ⟨w.heap.size + 1, 0, none⟩ = some (.string R) := by
      have h := World.cell?_alloc_new (w := w0) #[.string R] 9 0
      rw [hz0] at h
      rw [hw1]; exact h
    have hR2 := hR1.below hb2'
    have hC2 := hC1.below hb2' hC1.lt
    have hb2 : Below w.heap.size w w1 := hb1.trans (hb2'.mono (by omega))
    have hT1 := hT.below hb2 hT.pos
    have h0w := hT.pos
    rw [hz0]
    clear hw1 hb2' hR1 hC1 hb1 hz0
    have hneq : Sem.run Tryd.prog (binOp .neq 64 (Value.func (Fn.func 43) #[] #[Value.pointer (some { block := w.heap.size + 1, off := 0 })]) Value.nilFunc) w1 = .ok (.bool true) w1 := by rfl
    gi_wp2
    have hwL : g ≤ w1.heap.size := by omega
    refine wpIn_rangeFunc_ownG rfl (by omega) (gf := 43) (lb := #[.pointer (some ⟨w.heap.size + 1, 0, none⟩)]) rfl trivial (enters_of Tryd.func43 (by kernel_rfl) rfl)
      (uAll_stops 8 (by omega) (w.heap.size + 1) R (by rw [← bs_length, hRb]; simp; omega) w1 (by omega) hcB hT1) TwoKept.trans (TwoKept.put (w.heap.size + 1) w1 (by omega) (by omega)) (Below.refl _ _) (fun _ => rfl)
      (ScI w g s k l) (ScX w g s k l) (ScI_own w g s k l _ (by omega) hwL) (ScX_own w g s k l _ (by omega) hwL)
      ⟨⟨rfl, hR2, hC2⟩, hb2.mono (by omega)⟩
      (fun x => { tmps := #[.pointer (some ⟨g, 0, none⟩), .pointer (some ⟨w.heap.size, 0, none⟩), .string R, undef, .int .i64 (x.2 : Nat), undef, undef, .pointer (some ⟨g, 0, none⟩), .pointer (some ⟨g, 0, none⟩), .pointer (some ⟨g, 0, none⟩), .string s, .pointer (some ⟨g, 0, none⟩), .pointer (some ⟨g, 0, none⟩), .pointer (some ⟨g, 1, none⟩), .int .i64 (k : Int), .pointer (some ⟨g, 0, none⟩), .pointer (some ⟨g, 0, none⟩), .pointer (some ⟨g, 1, none⟩), .int .i64 (k : Int), .int .i64 ((k : Int) + 4), .pointer (some ⟨g, 0, none⟩), .pointer (some ⟨g, 0, none⟩), .pointer (some ⟨g, 0, none⟩), .string s, .int .i64 (s.size : Int), .int .i64 ((s.size : Int)), .string R, .string R, .func (.func 43) #[] #[.pointer (some ⟨w.heap.size + 1, 0, none⟩)], .int .i64 (x.1 : Nat), .int .i64 (x.2 : Nat), undef, undef, undef, undef, undef, undef, undef, undef, undef, undef, undef, undef, undef, undef, undef, undef, undef, undef, undef, undef], defers := [] }) ?assign ?body ?done ?stop
    case assign =>
      intro l x W K hK
      gi_wp2
      exact hK
    case body =>
      rintro l0 pre x W ⟨⟨rfl, hRW, hCW⟩, hbW⟩ -
      have hltW := hRW.lt
      have hPX := PutX_any x.2 W
      have hplen := putX_len x.2
      have hpsz : (strOf (putX x.2)).size = (putX x.2).length := strOf_size _
      generalize hpx : putX x.2 = px at *
      have HPX := Lib.hid hpx
      have HPS := Lib.hid hpsz
      clear hpx hpsz
      have hcw := hCW.cell 0 _ rfl
      gi_wp2
      refine ⟨trivial, (CallsIn.inRound l0 (callsIn_wide.2 hPX)).mono ?_⟩
      rintro e w3 ⟨rfl, hb3⟩
      have hz3 := hb3.size
      have hR3 := hRW.below hb3
      have hC3 := hCW.below hb3 hCW.lt
      have hcw3 := hC3.cell 0 _ rfl
      have hWS := rWS w3 g s k l (strOf px) hR3 (by rw [HPS.out]; omega)
      gi_wp2
      refine ⟨trivial, (CallsIn.inRound l0 (callsIn_wide.2 hWS)).mono ?_⟩
      rintro e w4 ⟨rfl, hR4, hb4, hB4⟩
      obtain ⟨cs4, hb4', h54, h64, h74⟩ := id hR4
      have c14 := hb4'.cells.cell 1 _ h74
      have f14 := hb4'.cells.frozen 1
      have hC4 := hB4.cells hC3 (by omega) (by decide)
      have hcw4 := hC4.cell 0 _ rfl
      clear hb4' h54 h64 h74
      have hR5 := hR4.moved (k + px.length)
      obtain ⟨cw, hcw', -⟩ := id hRW
      have hkeep := keeps_beside (B := w1.heap.size) (((Beside.of_below (E := 5) (g := g) hb3).trans hB4).setCell 1 (.int .i64 ((k + px.length : Nat) : Int))) hcw'.cells
      have hbW5 := ((hbW.trans (hb3.mono (by omega))).trans hb4).setCell (p := ⟨g, 1, none⟩) (Nat.le_refl _) (.int .i64 ((k + px.length : Nat) : Int))
      have hl4 := HPS.out
      gi_wp2
      exact ⟨hkeep, ⟨rfl, x, rfl, by rw [HPX.out]; exact hR5⟩, hbW5⟩
    case done =>
      rintro D ys W hD hys ⟨⟨rfl, hRW, hCW⟩, hbW⟩ hK
      have h0 : (oneN ((bs s).drop k)).2 = 0 := by
        rw [← oneN_take4, ← hRb]
        exact Decidable.byContradiction fun hn => by rw [scan_step hRne, if_neg hn] at hys; cases hys
      gi_wp2
      refine ⟨trivial, (callsIn_wide.2 (fail_any 7 W)).mono ?_⟩
      rintro e w3 ⟨rfl, rfl⟩
      gi_wp2
      refine ⟨by simp, .inl ⟨_, _, rfl, run_takeDeferred hK, ?_⟩⟩
      exact .inr ⟨h0, rfl, hbW.trans ((belowK_b (w := w) (Nat.le_refl _) W D _ _ (by omega) hK rfl rfl).mono (by omega))⟩
    case stop =>
      rintro D c pre W hD hpre ⟨⟨rfl, x, rfl, hRW⟩, hbW⟩ hK
      have hx : (oneN ((bs s).drop k)).2 ≠ 0 ∧ putX x.2 = un (((bs s).drop k).take (oneN ((bs s).drop k)).2) ∧ (putX x.2).length = (oneN ((bs s).drop k)).2 := by
        rw [← oneN_take4, ← hRb]
        have hn : (oneN (bs R)).2 ≠ 0 := fun hn => by rw [scan_bad hRne hn] at hpre; simp at hpre
        rw [scan_step hRne, if_neg hn] at hpre
        obtain ⟨t, ht⟩ := hpre
        simp only [List.cons_append, List.nil_append, List.cons.injEq] at ht
        obtain ⟨rfl, -⟩ := ht
        obtain ⟨q1, q2, q3, q4⟩ := put_oneN (l := bs R) (c := (oneN (bs R)).1) (n := (oneN (bs R)).2) bs_lt (by rfl) hn
        have e1 : putX (oneN (bs R)).1 = putU (oneN (bs R)).1 := by unfold putX; rw [if_pos q1]
        refine ⟨hn, ?_, ?_⟩
        · rw [e1]
          show un (putN _) = _
          rw [q3, hRb, List.take_take, Nat.min_eq_left (by rw [← hRb]; exact (oneN_le _ bs_lt).2)]
        · rw [e1, putU_length, q2]
      gi_wp2
      refine ⟨by simp, .inl ⟨_, _, rfl, run_takeDeferred hK, ?_⟩⟩
      refine ⟨_, results_none rfl _ _ _, .inl ⟨hx.1, rfl, ?_, ?_⟩⟩
      · have := hRW.kept (grownBy_putObj' W D (.deferred none)) (fun r e => by cases e; exact ⟨_, hK, rfl⟩)
        rw [hx.2.2, hx.2.1] at this
        exact this
      · exact hbW.trans ((belowK_b (w := w) (Nat.le_refl _) W D _ _ (by omega) hK rfl rfl).mono (by omega))
end Go.Proofs.YtgkgdmpbcneoiaaDoor
