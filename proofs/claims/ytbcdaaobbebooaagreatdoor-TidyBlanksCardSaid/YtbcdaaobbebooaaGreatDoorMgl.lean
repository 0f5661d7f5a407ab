/- Texts of this claim, one behind the other: TdD, TdE, TdG, TdH, TdI, TdJ. -/
import Derived.Test.YtbcdaaobbebooaaGreatDoorMgc
import Derived.Test.YtbcdaaobbebooaaGreatDoorMgi
import Derived.Test.YtbcdaaobbebooaaGreatDoorMgk
set_option linter.unusedSimpArgs false
set_option linter.unusedVariables false
namespace Go.Proofs.YtbcdaaobbebooaaGreatDoor
set_option maxRecDepth 100000
set_option maxHeartbeats 20000000
open Go.RowKit Go.Tab
def rowE (d : SlT × TRow) : List Value := [slT d.1, .int .i64 d.2.dep]
def TrO (B : Nat) (w : World) (v : Value) (R : List TRow) : Prop :=
 ∃ D : List (SlT × TRow), D.map (·.2) = R /\ w.ownsRow B 103 2 v D.length (D.flatMap rowE) /\ ∀ d ∈ D, OwnT B w (slT d.1) d.2.toks
theorem TrO.len {B : Nat} {w : World} {v : Value} {R : List TRow} (h : TrO B w v R) : ∃ a cap, v = .slice a R.length cap /\ R.length <= cap /\ cap <= maxLen := by
 obtain ⟨D, rfl, hown, -⟩ := h; obtain ⟨h1, h2⟩ := hown; rcases h2 with ⟨rfl, h3⟩ | ⟨g, cap, cur, rfl, hb, hg, h3, h4, -⟩
 ·rw [List.length_map, h3]; exact ⟨none, 0, rfl, Nat.le_refl _, Nat.zero_le _⟩
 ·rw [List.length_map]; exact ⟨_, cap, rfl, h3, h4⟩
theorem wr_block {B g k : Nat} {w w' : World} {cs : Array Value} {t : TypeId} (h : WrP B g w w') (hc : w.heap[k]? = some (.cells cs t (0, 0))) (hk : k ≠ g) (ht : t ≠ 5) : w'.heap[k]? = w.heap[k]? := by
 rw [hc]; exact h.cells (cs := cs) (t := t) hc hk ht
theorem own_wr {B Bg g n sz : Nat} {E : TypeId} {w w' : World} {v : Value} {xs : List Value} {l : Bs} (h : w.ownsRow B E sz v n xs) (hw : BW Bg w g l) (hr : WrP Bg g w w') (h1 : E ≠ 69) (h2 : E ≠ 5) : w'.ownsRow B E sz v n xs := by
 refine own_moved h fun k e => ?_; obtain ⟨cs, hc⟩ := own_ty h k e; exact wr_block hr hc (hw.ne hc h1) h2
theorem ownT_wr {B Bg g : Nat} {w w' : World} {v : Value} {t : List Tok} {l : Bs} (h : OwnT B w v t) (hw : BW Bg w g l) (hr : WrP Bg g w w') : OwnT B w' v t := own_wr h hw hr (by decide) (by decide)
theorem TrO.wr {B Bg g : Nat} {w w' : World} {v : Value} {R : List TRow} {l : Bs} (h : TrO B w v R) (hw : BW Bg w g l) (hr : WrP Bg g w w') : TrO B w' v R := by
 obtain ⟨D, h1, h2, h3⟩ := h; exact ⟨D, h1, own_wr h2 hw hr (by decide) (by decide), fun d hd => ownT_wr (h3 d hd) hw hr⟩
theorem flat_rowE : ∀ (D : List (SlT × TRow)) (j : Nat) (h : j < D.length), (D.flatMap rowE)[j * 2]? = some (slT D[j].1) /\ (D.flatMap rowE)[j * 2 + 1]? = some (.int .i64 D[j].2.dep)
 | p :: l, 0, _ => by simp [rowE]
 | p :: l, j + 1, h => by
  have ih := flat_rowE l j (by simpa using h)
  have e1 : (j + 1) * 2 = j * 2 + 2 := by omega
  rw [e1]
  simpa [rowE] using ih
theorem TrO.get {B : Nat} {w : World} {a : Option Addr} {n c : Nat} {R : List TRow} (h : TrO B w (.slice a n c) R) {j : Nat} (hj : j < R.length) :
  ∃ b, ∃ s : SlT, a = some ⟨b, 0, none⟩ /\ b < w.heap.size /\ OwnT B w (slT s) R[j].toks /\ w.cell? ⟨b, j * 2, none⟩ = some (slT s) /\ w.cell? ⟨b, j * 2 + 1, none⟩ = some (.int .i64 R[j].dep) := by
 obtain ⟨D, rfl, hown, hD⟩ := h; rw [List.length_map] at hj; have hlt := World.ownsRow.lt hown; obtain ⟨h1, h2⟩ := hown; rcases h2 with ⟨h2, h3⟩ | ⟨g, cap, cur, h2, hb, hg, h3, h4, h5, h6⟩
 ·omega
 ·cases h2
  obtain ⟨f1, f2⟩ := flat_rowE D j hj; rw [<- h6, List.getElem?_take, if_pos (by omega)] at f1 f2
  rw [List.getElem_map]; refine ⟨g, D[j].1, rfl, (hlt g rfl).2, hD D[j] (List.getElem_mem hj), ?_, ?_⟩
  all_goals rw [cell_of_row w g _ cur 103 (0, 0) hg]
  ·simpa using f1
  ·simpa using f2
def TabB (B : Nat) (w : World) : Prop := ∀ W, Below B w W -> Tab W
theorem TabB.go {B : Nat} {w w' : World} (h : TabB B w) (hb : Below B w w') : TabB B w' := fun W hW => h W (hb.trans hW)
theorem TabB.out {B : Nat} {w : World} (h : TabB B w) : Tab w := h w (Below.refl _ _)
structure FitW (r : TRow) : Prop where
 d : 0 <= r.dep /\ r.dep <= 1000000
 l : r.toks.length <= 1000000
 s : (partB r.toks r.ind 0 r.toks.length).length <= 1000000
theorem eq_le (r : TRow) : r.eq <= r.toks.length := by
 unfold TRow.eq
 cases h : eqR r.toks with
 | none => exact Nat.zero_le _
 | some i => exact Nat.le_of_lt (eqR_some h).2
theorem FitW.head {r : TRow} (h : FitW r) : (headB r).length <= 1000000 := Nat.le_trans (partB_le (eq_le r)) h.s
theorem Tryz.infoStrZ : (Tryz.prog.info? 9).map (fun i => (i.zero, i.size, i.bytes)) = some (some (.string ⟨#[]⟩), 1, 16) := by kernel_rfl
theorem Tryz.infoIntZ : (Tryz.prog.info? 3).map (fun i => (i.zero, i.size, i.bytes)) = some (some (.int .i64 0), 1, 8) := by kernel_rfl
theorem widB_take {R : List TRow} {k : Nat} (hk : k < R.length) : widB (R.take (k + 1)) = max (widB (R.take k)) (cntB (headB R[k])) := by
 unfold widB; rw [List.take_succ_eq_append_getElem hk, List.foldl_append]; rfl
theorem cntB_le (l : Bs) : cntB l <= l.length := by
 unfold cntB; split
 ·have := scan_len (nb l).length (nb l) 0 (Nat.le_refl _)
  rw [nb_len] at this; exact this
 ·omega
theorem widB_mem {R : List TRow} {r : TRow} (h : r ∈ R) : cntB (headB r) <= widB R := by
 have hk : ∀ (l : List TRow) (a : Nat), a <= l.foldl (fun m r => max m (cntB (headB r))) a /\ ∀ x ∈ l, cntB (headB x) <= l.foldl (fun m r => max m (cntB (headB r))) a := by
  intro l
  induction l with
  | nil => intro a; exact ⟨Nat.le_refl _, fun x hx => by cases hx⟩
  | cons y l ih =>
   intro a; obtain ⟨h1, h2⟩ := ih (max a (cntB (headB y))); rw [List.foldl_cons]; refine ⟨by omega, fun x hx => ?_⟩
   rcases List.mem_cons.1 hx with rfl | hx
   ·omega
   ·exact h2 x hx
 exact (hk R 0).2 r h
theorem widB_le {R : List TRow} (h : ∀ r ∈ R, FitW r) : widB R <= 1000000 := by
 have hk : ∀ (l : List TRow) (a : Nat), a <= 1000000 -> (∀ r ∈ l, FitW r) -> l.foldl (fun m r => max m (cntB (headB r))) a <= 1000000 := by
  intro l
  induction l with
  | nil => intro a ha _; exact ha
  | cons r l ih =>
   intro a ha h; refine ih _ ?_ (fun x hx => h x (by simp [hx]))
   have h1 := cntB_le (headB r); have h2 := (h r (by simp)).head
   show max a (cntB (headB r)) <= 1000000; omega
 exact hk R 0 (by omega) h
structure StA (B B0 g : Nat) (w : World) (hb : Nat) (M N : Array Value) (rb : Nat) (s : SlT) (dep : Int) (toks : List Tok) (L : Bs) (W : World) : Prop where
 bw : BW B W g L
 m : Cells W hb M 9
 n : Cells W (hb + 1) N 3
 r : Cells W rb #[slT s, .int .i64 dep] 103
 t : OwnT B0 W (slT s) toks
 p : WrP B g w W
section
variable {B B0 g hb rb : Nat} {w W W' : World} {M N : Array Value} {s : SlT} {dep : Int} {toks : List Tok} {L L' : Bs}
theorem StA.wr (h : StA B B0 g w hb M N rb s dep toks L W) (hw : BW B W' g L') (hp : WrP B g W W') : StA B B0 g w hb M N rb s dep toks L' W' :=
 ⟨hw, hp.cells h.m (h.bw.ne h.m (by decide)) (by decide), hp.cells h.n (h.bw.ne h.n (by decide)) (by decide), hp.cells h.r (h.bw.ne h.r (by decide)) (by decide), ownT_wr h.t h.bw hp, h.p.trans hp⟩
theorem StA.below (h : StA B B0 g w hb M N rb s dep toks L W) (hq : Below W.heap.size W W') : StA B B0 g w hb M N rb s dep toks L W' :=
 h.wr (h.bw.below hq) (WrP.of hq (by have := h.bw.lt; have := h.bw.1; omega))
theorem StA.put (h : StA B B0 g w hb M N rb s dep toks L W) (ps : List ByteArray) (hl : L.length + (catS ps).length <= 1000000000) (hn : ps.length <= 10) :
  Calls Tryz.prog 66 #[.pointer (some ⟨g, 0, none⟩), .slice (some ⟨W.heap.size, 0, none⟩) ps.length ps.length] (W.alloc (.cells (ps.map Value.string).toArray 9)) fun e w' => e = .returned (.tuple #[]) /\ StA B B0 g w hb M N rb s dep toks (L ++ catS ps) w' := by
 have h1 := h.below ((Below.refl _ W).alloc (Nat.le_refl _) (.cells (ps.map Value.string).toArray 9)); refine (put_any ps h1.bw (Cells.new W _ _) hl hn).mono ?_; rintro e w' ⟨rfl, h2, h3⟩; exact ⟨rfl, h1.wr h2 h3⟩
end
theorem line_take {R : List TRow} {W k : Nat} (hk : k < R.length) : (R.take (k + 1)).flatMap (lineA W) = (R.take k).flatMap (lineA W) ++ lineA W R[k] := by
 rw [List.take_succ_eq_append_getElem hk, List.flatMap_append]; simp
theorem line_le {R : List TRow} {W : Nat} (k : Nat) : ((R.take k).flatMap (lineA W)).length <= (R.flatMap (lineA W)).length := by
 conv => rhs; rw [<- List.take_append_drop k R, List.flatMap_append, List.length_append]
 omega
structure HdI (R : List TRow) (k : Nat) (M N : Array Value) : Prop where
 m : M.size = R.length
 n : N.size = R.length
 h : ∀ j (h : j < R.length), j < k -> M[j]? = some (.string (strL (headB R[j]))) /\ N[j]? = some (.int .i64 (cntB (headB R[j]) : Nat))
theorem align_any {B B0 g : Nat} {w : World} {l : Bs} (R : List TRow) (v : Value) (hW : BW B w g l) (hR : TrO B0 w v R) (hF : ∀ r ∈ R, FitW r /\ (eqR r.toks).isSome = true) (hn : R.length <= 1000000) (hl : l.length + (alnB R).length <= 500000000) (hT : TabB B w) :
  Calls Tryz.prog 64 #[.pointer (some ⟨g, 0, none⟩), v] w fun e w' => e = .returned (.tuple #[]) /\ BW B w' g (l ++ alnB R) /\ WrP B g w w' := by
 obtain ⟨ra, rc, rfl, hc1, hc2⟩ := hR.len; unfold maxLen at hc2; have hB : B <= w.heap.size := by have := hW.lt; have := hW.1; omega
 have H0 := Lib.hid (And.intro hW (And.intro hR hT)); have HF := Lib.hid hF; have HL := Lib.hid hl; clear hW hR hT hF hl; go_enter Tryz.func64, Tryz.ntmps64; go_wp2_with (with_reducible first | refine stop_make ?_)
 refine Stop.out ?_; refine wpList_make_all rfl _ _ _ rfl 9 16 1 _ Tryz.underlying34 Tryz.infoStrZ _ _ R.length rfl rfl (by omega) (by unfold maxLen; omega) ?_
 rintro M0 w1 hM0 rfl; rw [Nat.mul_one] at hM0; go_wp2_with (with_reducible first | refine stop_make ?_)
 refine Stop.out ?_; refine wpList_make_all rfl _ _ _ rfl 3 8 1 _ Tryz.underlying58 Tryz.infoIntZ _ _ R.length rfl rfl (by omega) (by unfold maxLen; omega) ?_
 rintro N0 w2 hN0 rfl; rw [Nat.mul_one] at hN0; have hb1 : Below w.heap.size w (w.alloc (.cells M0 9)) := (Below.refl _ w).alloc (Nat.le_refl _) _; have hb2 := hb1.alloc (by simp) (.cells N0 3)
 have hc1 := (Cells.new w M0 9).alloc (.cells N0 3); have hc2 := Cells.new (w.alloc (.cells M0 9)) N0 3; simp only [World.size_alloc] at hc2; have HS := Lib.hid (And.intro hb2 (And.intro hc1 (And.intro hc2 (And.intro hM0 hN0)))); clear hb1 hb2 hc1 hc2 hM0 hN0; go_wp2_with fail; go_loopw [6, 20] (fun wd i wr => ∃ (k : Nat) (M N : Array Value), k <= R.length /\ i = .int .i64 (k : Int) /\ wd = .int .i64 (widB (R.take k) : Nat) /\ HdI R k M N /\ Cells wr w.heap.size M 9 /\ Cells wr (w.heap.size + 1) N 3 /\ Below w.heap.size w wr) (fun _ i _ => R.length - (intOf i).toNat)
 case atStart => exact ⟨0, M0, N0, Nat.zero_le _, rfl, rfl, ⟨HS.out.2.2.2.1, HS.out.2.2.2.2, fun j _ h => by omega⟩, HS.out.2.1, HS.out.2.2.1, HS.out.1⟩
 case round =>
  clear HS; obtain ⟨k, M, N, hk, rfl, rfl, hH, hM, hN, hb⟩ := hrel; have hsz := hb.size; have hM1 := hM.lt; have hN1 := hN.lt
  by_cases hkl : k < R.length
  ·have hRr := H0.out.2.1.wr H0.out.1 (WrP.of hb hB)
   obtain ⟨b, s, rfl, hbl, hown, q0, q1⟩ := hRr.get hkl; obtain ⟨sa, sn, sc⟩ := s; obtain ⟨hFr, hat⟩ := HF.out R[k] (List.getElem_mem hkl); have hwid := widB_take hkl
   have heq : eqR R[k].toks = some R[k].eq := by
    unfold TRow.eq; obtain ⟨i, hi⟩ := Option.isSome_iff_exists.1 hat; rw [hi]; rfl
   have hle := eq_le R[k]; have hwl : widB R <= 1000000 := widB_le (fun r hr => (HF.out r hr).1); have HRK : Hid (∀ j (h : j < R.length), j = k -> R[j] = R[k]) := Lib.hid (fun j h e => by subst e; rfl)
   generalize R[k] = r at *
   have hEq : ∀ W, Below wr.heap.size wr W -> Calls Tryz.prog 65 #[.agg #[.slice sa sn sc, .int .i64 r.dep]] W fun e w' => e = .returned (.int .i64 (r.eq : Nat)) /\ Below W.heap.size W w' := fun W hW => by
    have := tdEq_any W _ r.toks r.dep ((hown.below hW (Nat.le_refl _)).toks) hFr.l; rw [heq] at this; exact this
   have hPt : ∀ W, Below wr.heap.size wr W -> Calls Tryz.prog 67 #[.agg #[.slice sa sn sc, .int .i64 r.dep], .int .i64 0, .int .i64 (r.eq : Nat)] W fun e w' => e = .returned (.string (strL (headB r))) /\ Below W.heap.size W w' := fun W hW =>
    tdPart_any W _ r.toks r.dep 0 r.eq ((hown.below hW (Nat.le_refl _)).toks) hFr.d (Nat.zero_le _) hle hFr.l (by have := hFr.head; show (headB r).length <= _; omega)
   have hcl := cntB_le (headB r); have hhl := hFr.head; have HHD : Hid (countV (scan (bs (strL (headB r))) 0) = cntB (headB r) /\ (strL (headB r)).size = (headB r).length) := Lib.hid ⟨rfl, by show (headB r).toArray.size = _; simp⟩
   have hCt := fun W (hW : Below w.heap.size w W) => Count_any (strL (headB r)) W ((H0.out.2.2.go (hW.mono hB)).out) (by rw [HHD.out.2]; omega)
   rw [HHD.out.1] at hCt; have HI := Lib.hid (And.intro hH (And.intro hM (And.intro hN hb))); have HW := Lib.hid hwid; generalize (scan (bs (strL (headB r))) 0).2.isNone = vb at *
   have HNX : Hid (∀ (hm : k < M.size) (hn : k < N.size), HdI R (k + 1) (M.set k (.string (strL (headB r))) hm) (N.set k (.int .i64 (cntB (headB r) : Nat)) hn)) := Lib.hid (fun hm hn => by
    refine ⟨by simpa using hH.m, by simpa using hH.n, fun j hj hjk => ?_⟩
    by_cases e : j = k
    ·subst e
     rw [HRK.out j hj rfl]; simp
    ·rw [Array.getElem?_set_ne _ (fun q => e q.symm), Array.getElem?_set_ne _ (fun q => e q.symm)]
     exact hH.h j hj (by omega))
   generalize strL (headB r) = hd at *; generalize cntB (headB r) = cn at *; generalize r.eq = eq at *; generalize r.dep = dep at *; have hms : k < M.size := by rw [hH.m]; exact hkl
   have hns : k < N.size := by rw [hH.n]; exact hkl
   have i1 : (0 : Int) <= (k : Int) := by omega
   have i2 : (k : Int) < (R.length : Int) := by omega
   have hwt : widB (R.take k) <= 1000000 := widB_le (fun x hx => (HF.out x (List.mem_of_mem_take hx)).1); clear hRr hown hFr hat heq hle hH hM hN hb HRK hwid; simp only [slT] at q0; have hA1 : Below wr.heap.size wr (wr.alloc (.cells #[.slice sa sn sc, .int .i64 dep] 103)) := (Below.refl _ wr).alloc (Nat.le_refl _) _; have hA2 := Cells.new wr #[.slice sa sn sc, .int .i64 dep] 103; have HA := Lib.hid (And.intro hA1 hA2); have H5 : Hid (∀ W, Below wr.heap.size wr W -> Cells W w.heap.size M 9 /\ Cells W (w.heap.size + 1) N 3 /\ Below w.heap.size w W) := Lib.hid fun W hW => ⟨HI.out.2.1.below hW HI.out.2.1.lt, HI.out.2.2.1.below hW HI.out.2.2.1.lt, below_more HI.out.2.2.2 hW⟩; clear hA1 hA2 hwl; go_upto_region 6 with fail
   have g0 := HA.out.2.cell 0 _ rfl; have g1 := HA.out.2.cell 1 _ rfl; have hx0 := HA.out.1.drew; go_cut [] (fun wc => ∃ w6, Below wr.heap.size wr w6 /\ Cells w6 wr.heap.size #[.slice sa sn sc, .int .i64 dep] 103 /\ wc = w6.setCell ⟨w.heap.size, k, none⟩ (.string hd))
   case first =>
    go_region_held3 (fun w' => w'.cell? ⟨wr.heap.size, 0, none⟩ = some (.slice sa sn sc) /\ w'.cell? ⟨wr.heap.size, 1, none⟩ = some (.int .i64 dep)) (first | (with_reducible exact ⟨g0, g1⟩) | (with_reducible exact ⟨g70, g71⟩) | (with_reducible exact ⟨g60, g61⟩) | (with_reducible exact ⟨g50, g51⟩) | go_keep) (first
     | (go_at_call 67; (with_reducible refine (hPt _ hx5).mono ?_); rintro _ w6 ⟨rfl, hb6⟩; have hx6 := below_more hx5 hb6; have hy6 := hy5.below hb6 hy5.lt; have g60 := hy6.cell 0 _ rfl; have g61 := hy6.cell 1 _ rfl; have hz6 := (H5.out w6 hx6).1; have hl6 := hz6.lt; have c6 := hz6.cell k _ (Array.getElem?_eq_getElem hms); have f6 := hz6.frozen k; have hy7 := hy6.setOther ⟨w.heap.size, k, none⟩ (.string hd) (by show w.heap.size ≠ wr.heap.size; omega); have g70 := hy7.cell 0 _ rfl; have g71 := hy7.cell 1 _ rfl)
     | (go_at_call 65; (with_reducible refine (hEq _ hx0).mono ?_); rintro _ w5 ⟨rfl, hb5⟩; have hx5 := below_more hx0 hb5; have hy5 := HA.out.2.drew.below hb5 HA.out.2.lt; have g50 := hy5.cell 0 _ rfl; have g51 := hy5.cell 1 _ rfl))
    all_goals
     go_wp2_with fail; go_meet
     exact ⟨w6, hx6, hy6, rfl⟩
   case rest =>
    obtain ⟨w6, hx6, hy6, rfl⟩ := hcut; have h6 := H5.out w6 hx6; have hM6 := h6.1.set k hms (.string hd); have hN6 := h6.2.1.setOther ⟨w.heap.size, k, none⟩ (.string hd) (by show w.heap.size ≠ w.heap.size + 1; omega)
    have hb6 := h6.2.2.setCell (p := ⟨w.heap.size, k, none⟩) (Nat.le_refl _) (.string hd); have H6 := Lib.hid (And.intro hM6 (And.intro hN6 hb6)); have c6 := hM6.cell k (.string hd) (by simp)
    have d6 := hN6.cell k _ (Array.getElem?_eq_getElem hns); have e6 := hN6.frozen k; have l6 := hM6.lt; have l7 := hN6.lt; have hCt6 := hCt _ hb6; have kmx : max ((widB (R.take k) : Nat) : Int) ((cn : Nat) : Int) = ((widB (R.take (k + 1)) : Nat) : Int) := by rw [HW.out]; omega
    clear hx6 hy6 h6 hM6 hN6 hb6 H5 hCt hEq hPt; go_wp2_with fail; refine hCt6.mono ?_; rintro _ _ ⟨rfl, rfl⟩; clear hCt6; go_wp2_with fail; go_roundw
    case rel => exact ⟨k + 1, _, _, hkl, by go_num, rfl, HNX.out hms hns, H6.out.1.setOther ⟨w.heap.size + 1, k, none⟩ _ (by show w.heap.size + 1 ≠ w.heap.size; omega), H6.out.2.1.set k hns _, H6.out.2.2.setCell (p := ⟨w.heap.size + 1, k, none⟩) (by show w.heap.size <= w.heap.size + 1; omega) _⟩
    case measure => simp [intOf]; omega
  ·obtain rfl : k = R.length := by omega
   rw [List.take_length]; have hS0 := WrP.of (g := g) hb hB; have H1 := Lib.hid (And.intro (H0.out.1.below hb) (And.intro (H0.out.2.1.wr H0.out.1 hS0) (And.intro (H0.out.2.2.go (hb.mono hB)) hS0))); have HM := Lib.hid (And.intro hH (And.intro hM hN)); have hwl : widB R <= 1000000 := widB_le (fun r hr => (HF.out r hr).1); have halB : alnB R = R.flatMap (lineA (widB R)) := rfl; have HAL := Lib.hid halB; obtain ⟨WD, hWD⟩ : ∃ x, x = widB R := ⟨_, rfl⟩; rw [<- hWD] at HAL hwl ⊢; have HWD := Lib.hid hWD; have HCW : Hid (∀ j (h : j < R.length), cntB (headB R[j]) <= WD) := Lib.hid (fun j h => by rw [hWD]; exact widB_mem (List.getElem_mem h))
   clear hH hM hN hb hS0 halB hWD hkl hk; obtain ⟨wq, hwq⟩ : ∃ x, x = wr := ⟨_, rfl⟩; have HQ := Lib.hid hwq; rw [<- hwq] at H1 HM; clear hwq; go_wp2_with fail; go_loopw [52] (fun i wr => ∃ (k : Nat), k <= R.length /\ i = .int .i64 (k : Int) /\ BW B wr g (l ++ (R.take k).flatMap (lineA WD)) /\ WrP B g wq wr) (fun i _ => R.length - (intOf i).toNat)
   case atStart => exact ⟨0, Nat.zero_le _, rfl, by rw [List.take_zero, List.flatMap_nil, List.append_nil, <- HQ.out]; exact H1.out.1, by rw [<- HQ.out]; exact WrP.refl _ _ _⟩
   case round =>
    obtain ⟨k, hk, rfl, hbw, hp⟩ := hrel
    by_cases hkl : k < R.length
    ·have hRr := H1.out.2.1.wr H1.out.1 hp
     obtain ⟨b, s, rfl, hbl, hown, q0, q1⟩ := hRr.get hkl; obtain ⟨sa, sn, sc⟩ := s; obtain ⟨hFr, hat⟩ := HF.out R[k] (List.getElem_mem hkl)
     have heq : eqR R[k].toks = some R[k].eq := by
      unfold TRow.eq; obtain ⟨i, hi⟩ := Option.isSome_iff_exists.1 hat; rw [hi]; rfl
     have hel := (eqR_some heq).2; obtain ⟨tb, toff, rfl, htl, -, -, -⟩ := hown.toks.get hel; obtain ⟨m0, n0⟩ := HM.out.1.h k hkl hkl; have hcw := HCW.out k hkl; have hln := line_take (W := WD) hkl; have hlle := line_le (R := R) (W := WD) (k + 1); have hLL := HL.out; rw [HAL.out] at hLL; have hcl := cntB_le (headB R[k]); have hhl := hFr.head
     have hsn : sn = R[k].toks.length := by
      obtain ⟨a', c', e'⟩ := hown.len; simp only [slT, Value.slice.injEq] at e'; exact e'.2.1
     have hLA : lineA WD R[k] = headB R[k] ++ (spB (WD - cntB (headB R[k]) + 1) ++ (txB (R[k].toks[R[k].eq]'hel) ++ (partB R[k].toks R[k].ind (R[k].eq + 1) R[k].toks.length ++ [10]))) := by
      unfold lineA; rw [List.getElem?_eq_getElem hel]; rfl
     rw [hLA] at hln
     have hSt : StA B B0 g wq w.heap.size M N wr.heap.size (some ⟨tb, toff, none⟩, sn, sc) R[k].dep R[k].toks (l ++ (R.take k).flatMap (lineA WD)) (wr.alloc (.cells #[.slice (some ⟨tb, toff, none⟩) sn sc, .int .i64 R[k].dep] 103)) := by
      have hA1 : Below wr.heap.size wr (wr.alloc (.cells #[.slice (some ⟨tb, toff, none⟩) sn sc, .int .i64 R[k].dep] 103)) := (Below.refl _ wr).alloc (Nat.le_refl _) _; refine ⟨hbw.below hA1, (hp.cells HM.out.2.1 (H1.out.1.ne HM.out.2.1 (by decide)) (by decide)).alloc _, (hp.cells HM.out.2.2 (H1.out.1.ne HM.out.2.2 (by decide)) (by decide)).alloc _, Cells.new _ _ _, hown.below hA1 (Nat.le_refl _), hp.trans (WrP.of hA1 (by have := hbw.lt; have := hbw.1; omega))⟩
     have hX : ∀ W L, StA B B0 g wq w.heap.size M N wr.heap.size (some ⟨tb, toff, none⟩, sn, sc) R[k].dep R[k].toks L W -> W.cell? ⟨tb, toff + R[k].eq * 3 + 1, none⟩ = some (.string R[k].toks[R[k].eq].text) /\ tb < W.heap.size := fun W L h => by
      obtain ⟨b', o', e', h1', -, h2', -⟩ := h.t.toks.get hel; cases e'
      exact ⟨h2', h1'⟩
     have hEq : ∀ W L, StA B B0 g wq w.heap.size M N wr.heap.size (some ⟨tb, toff, none⟩, sn, sc) R[k].dep R[k].toks L W -> Calls Tryz.prog 65 #[.agg #[.slice (some ⟨tb, toff, none⟩) sn sc, .int .i64 R[k].dep]] W fun e w' => e = .returned (.int .i64 (R[k].eq : Nat)) /\ StA B B0 g wq w.heap.size M N wr.heap.size (some ⟨tb, toff, none⟩, sn, sc) R[k].dep R[k].toks L w' := fun W L h => by
      have := tdEq_any W _ R[k].toks R[k].dep h.t.toks hFr.l; rw [heq] at this; refine this.mono ?_; rintro e w' ⟨rfl, hb'⟩; exact ⟨rfl, h.below hb'⟩
     have hpl : (partB R[k].toks R[k].ind (R[k].eq + 1) R[k].toks.length).length <= 500000000 := by
      have := hlle; rw [hln] at this; simp only [List.length_append] at this; omega
     have hPt : ∀ W L, StA B B0 g wq w.heap.size M N wr.heap.size (some ⟨tb, toff, none⟩, sn, sc) R[k].dep R[k].toks L W -> Calls Tryz.prog 67 #[.agg #[.slice (some ⟨tb, toff, none⟩) sn sc, .int .i64 R[k].dep], .int .i64 ((R[k].eq : Int) + 1), .int .i64 (sn : Nat)] W fun e w' => e = .returned (.string (strL (partB R[k].toks R[k].ind (R[k].eq + 1) R[k].toks.length))) /\ StA B B0 g wq w.heap.size M N wr.heap.size (some ⟨tb, toff, none⟩, sn, sc) R[k].dep R[k].toks L w' := fun W L h => by
      rw [hsn, show ((R[k].eq : Int) + 1) = ((R[k].eq + 1 : Nat) : Int) by omega]
      have h2 := h; rw [hsn] at h2; refine (tdPart_any W _ R[k].toks R[k].dep (R[k].eq + 1) R[k].toks.length h2.t.toks hFr.d hel (Nat.le_refl _) hFr.l hpl).mono ?_; rintro e w' ⟨rfl, hb'⟩; rw [hsn] at h; exact ⟨rfl, h.below hb'⟩
     have HSZ : Hid (((R.take k).flatMap (lineA WD)).length + ((headB R[k]).length + ((WD - cntB (headB R[k]) + 1) + ((R[k].toks[R[k].eq]'hel).text.data.toList.length + ((partB R[k].toks R[k].ind (R[k].eq + 1) R[k].toks.length).length + 1)))) <= (R.flatMap (lineA WD)).length) := Lib.hid (by
      have := hlle; rw [hln] at this
      simpa [spB] using this)
     have HLN : Hid ((R.take (k + 1)).flatMap (lineA WD) = (R.take k).flatMap (lineA WD) ++ (headB R[k] ++ (spB (WD - cntB (headB R[k]) + 1) ++ ((R[k].toks[R[k].eq]'hel).text.data.toList ++ (partB R[k].toks R[k].ind (R[k].eq + 1) R[k].toks.length ++ [10]))))) := Lib.hid hln; have HST := Lib.hid hSt; have hsl : R[k].eq < sn := by omega
     have hsm : sn <= 1000000 := by have := hFr.l; omega
     have HHD : Hid ((strL (headB R[k])).data.toList = headB R[k]) := Lib.hid rfl; have HPR : Hid ((strL (partB R[k].toks R[k].ind (R[k].eq + 1) R[k].toks.length)).data.toList = partB R[k].toks R[k].ind (R[k].eq + 1) R[k].toks.length) := Lib.hid rfl; clear hRr hown hat heq hln hlle hsn hLA hSt hpl hFr hp hbw; generalize R[k].toks = toks at *; generalize R[k].ind = ind at *; generalize headB R[k] = HB at *; generalize R[k].dep = dep at *; generalize R[k].eq = eq at *; generalize toks[eq].text = tx at *; generalize partB toks ind (eq + 1) toks.length = PB at *; generalize strL HB = hd at *; generalize strL PB = pr at *; generalize cntB HB = cn at *; obtain ⟨pad, hpad⟩ : ∃ x, x = WD - cn + 1 := ⟨_, rfl⟩; have k5 : IntKind.i64.wrap ((WD : Int) - (cn : Int)) = (WD : Int) - (cn : Int) := IntWalk.i64_in _ (by omega)
     have k6 : IntKind.i64.wrap ((WD : Int) - (cn : Int) + 1) = (pad : Int) := by rw [IntWalk.i64_in _ (by omega)]; omega
     rw [<- hpad] at HSZ HLN; have hpd : pad <= 1000001 := by omega
     have hRep := fun W => sp_any pad W (by omega)
     have HSP : Hid ((spS pad).data.toList = spB pad /\ (spS pad).size = pad) := Lib.hid ⟨rfl, spS_size pad⟩; generalize spS pad = sp at *; simp only [slT] at q0; have hms := HM.out.1.m; have i1 : (0 : Int) <= (k : Int) := by omega
     have i2 : (k : Int) < (R.length : Int) := by omega
     have i3 : (0 : Int) <= (eq : Int) := by omega
     have i4 : (eq : Int) < (sn : Int) := by omega
     clear hel htl hsl hcw hcl hhl hpad; go_wp2_with fail; refine (hEq _ _ HST.out).mono ?_; rintro _ w4 ⟨rfl, h4⟩; have H4 := Lib.hid h4; have a0 := h4.m.cell k _ m0; have a1 := h4.n.cell k _ n0; have a2 := h4.r.cell 0 (.slice (some ⟨tb, toff, none⟩) sn sc) rfl; have a3 := h4.r.cell 1 _ rfl; obtain ⟨a4, a5⟩ := hX _ _ h4; have a6 := h4.m.lt; have a7 := h4.n.lt; have a8 := h4.r.lt; have H5 : Hid (∀ W, Below w4.drew.heap.size w4.drew W -> StA B B0 g wq w.heap.size M N wr.heap.size (some ⟨tb, toff, none⟩, sn, sc) dep toks (l ++ (R.take k).flatMap (lineA WD)) W) := Lib.hid fun W hW => H4.out.below (((Below.refl _ w4).drew).trans hW)
     have hPut : ∀ W, StA B B0 g wq w.heap.size M N wr.heap.size (some ⟨tb, toff, none⟩, sn, sc) dep toks (l ++ (R.take k).flatMap (lineA WD)) W -> Calls Tryz.prog 66 #[.pointer (some ⟨g, 0, none⟩), .slice (some ⟨W.heap.size, 0, none⟩) 3 3] (W.alloc (.cells #[.string hd, .string sp, .string tx] 9)) fun e w' => e = .returned (.tuple #[]) /\ StA B B0 g wq w.heap.size M N wr.heap.size (some ⟨tb, toff, none⟩, sn, sc) dep toks ((l ++ (R.take k).flatMap (lineA WD)) ++ catS [hd, sp, tx]) w' := fun W h => h.put [hd, sp, tx] (by
      have e : (catS [hd, sp, tx]).length = HB.length + (pad + tx.data.toList.length) := by simp [catS, HHD.out, HSP.out.1, spB]
      have := HSZ.out; rw [e, List.length_append]
      omega) (by simp)
     clear h4 hEq; go_upto_region 14 with fail
     go_cut [] (fun wc => StA B B0 g wq w.heap.size M N wr.heap.size (some ⟨tb, toff, none⟩, sn, sc) dep toks ((l ++ (R.take k).flatMap (lineA WD)) ++ catS [hd, sp, tx]) wc)
     case first =>
      go_region_held3 (fun w' => w'.cell? ⟨w.heap.size, k, none⟩ = some (.string hd) /\ w'.cell? ⟨w.heap.size + 1, k, none⟩ = some (.int .i64 (cn : Nat)) /\ w'.cell? ⟨wr.heap.size, 0, none⟩ = some (.slice (some ⟨tb, toff, none⟩) sn sc) /\ w'.cell? ⟨tb, toff + eq * 3 + 1, none⟩ = some (.string tx)) (first | (with_reducible exact ⟨a0, a1, a2, a4⟩) | (with_reducible exact ⟨g60, g61, g62, g64⟩) | (with_reducible exact ⟨g50, g51, g52, g54⟩) | go_keep) (first
       | (go_at_call 66; (refine (hPut _ hx5).mono ?_); rintro _ w6 ⟨rfl, h6⟩; have g60 := h6.m.cell k _ m0; have g61 := h6.n.cell k _ n0; have g62 := h6.r.cell 0 (.slice (some ⟨tb, toff, none⟩) sn sc) rfl; have g64 := (hX _ _ h6).1)
       | (go_at_call 111; (with_reducible refine (hRep _).mono ?_); rintro _ w5 ⟨rfl, hb5⟩; have hx5 := H5.out w5 hb5; have g50 := hx5.m.cell k _ m0; have g51 := hx5.n.cell k _ n0; have g52 := hx5.r.cell 0 (.slice (some ⟨tb, toff, none⟩) sn sc) rfl; obtain ⟨g54, z5⟩ := hX _ _ hx5; have z6 := hx5.m.lt; have z7 := hx5.n.lt; have z8 := hx5.r.lt))
      all_goals
       go_wp2_with fail; go_meet
       exact h6
     case rest =>
      have h7 := hcut; have a2 := h7.r.cell 0 (.slice (some ⟨tb, toff, none⟩) sn sc) rfl; have a3 := h7.r.cell 1 _ rfl; have a8 := h7.r.lt; have hPr := hPt _ _ h7; clear hcut h7 hPut H5 hRep a0 a1 a4 a5 a6 a7; go_wp2_with fail; refine hPr.mono ?_; rintro _ w8 ⟨rfl, h8⟩
      have hP2 := h8.put [pr, ⟨#[10]⟩] (by
       have e1 : (catS [hd, sp, tx]).length = HB.length + (pad + tx.data.toList.length) := by simp [catS, HHD.out, HSP.out.1, spB]
       have e2 : (catS [pr, ⟨#[10]⟩]).length = PB.length + 1 := by simp [catS, HPR.out]
       have := HSZ.out; rw [e2, List.length_append, List.length_append, e1]
       omega) (by simp)
      clear hPr h8; go_wp2_with fail; refine hP2.mono ?_; rintro _ w9 ⟨rfl, h9⟩
      have HN : Hid (BW B w9 g (l ++ (R.take (k + 1)).flatMap (lineA WD)) /\ WrP B g wq w9) := Lib.hid ⟨by
       have e : l ++ (R.take (k + 1)).flatMap (lineA WD) = (l ++ (R.take k).flatMap (lineA WD)) ++ catS [hd, sp, tx] ++ catS [pr, ⟨#[10]⟩] := by
        rw [HLN.out]; simp [catS, HHD.out, HSP.out.1, HPR.out]
       rw [e]
       exact h9.bw, h9.p⟩
      clear hP2 h9; go_wp2_with fail; go_roundw
      case rel => exact ⟨k + 1, hkl, by go_num, HN.out.1, HN.out.2⟩
      case measure => simp [intOf]; omega
    ·obtain rfl : k = R.length := by omega
     rw [List.take_length] at hbw; have HN : Hid (BW B wr g (l ++ alnB R) /\ WrP B g w wr) := Lib.hid ⟨by rw [HAL.out]; exact hbw, H1.out.2.2.2.trans hp⟩
     clear hbw hp; go_wp2_with fail; refine bodyPost_end (v := .tuple #[]) (by simp [results, Tryz.results64, go_sem]) rfl ?_
     exact ⟨rfl, HN.out.1, HN.out.2⟩
theorem Tryz.infoRowT : (Tryz.prog.info? 103).map (fun i => (i.zero, i.size, i.bytes)) = some (some (.agg #[.slice none 0 0, .int .i64 0]), 2, 32) := by kernel_rfl
def RunO (B1 B : Nat) (w : World) (v : Value) (R : List TRow) : Prop :=
 ∃ D : List (SlT × TRow), D.map (·.2) = R /\ w.ownsRow B1 103 2 v D.length (D.flatMap rowE) /\ ∀ d ∈ D, OwnT B w (slT d.1) d.2.toks
theorem RunO.nil (B1 B : Nat) (w : World) : RunO B1 B w (.slice none 0 0) [] := ⟨[], rfl, World.ownsRow_nil _ _ _ _, fun d hd => by cases hd⟩
theorem RunO.tr {B1 B : Nat} {w : World} {v : Value} {R : List TRow} (h : RunO B1 B w v R) (hb : B <= B1) : TrO B w v R := by
 obtain ⟨D, h1, h2, h3⟩ := h; exact ⟨D, h1, own_base h2 hb, h3⟩
theorem RunO.wr {B1 B Bg g : Nat} {w w' : World} {v : Value} {R : List TRow} {l : Bs} (h : RunO B1 B w v R) (hw : BW Bg w g l) (hr : WrP Bg g w w') : RunO B1 B w' v R := by
 obtain ⟨D, h1, h2, h3⟩ := h; exact ⟨D, h1, own_wr h2 hw hr (by decide) (by decide), fun d hd => ownT_wr (h3 d hd) hw hr⟩
section
variable {B g x : Nat} {w : World} {l : Bs} {cs : Array Value} {t : TypeId}
theorem own_box_set {base n sz : Nat} {E : TypeId} {v : Value} {xs : List Value} (h : w.ownsRow base E sz v n xs) (hc : Cells w x cs t) (ht : E ≠ t) (j : Nat) (u : Value) : (w.setCell ⟨x, j, none⟩ u).ownsRow base E sz v n xs :=
 own_moved h fun k e => Below.heap_setCell _ _ _ _ (by exact own_box h hc ht k e)
theorem BW.set (h : BW B w g l) (hc : Cells w x cs t) (ht : t ≠ 69) (hu : t ≠ 5) (j : Nat) (u : Value) : BW B (w.setCell ⟨x, j, none⟩ u) g l := by
 have hne := h.ne hc ht; obtain ⟨h1, cs', h2, hcc, ha, v, hv, ho⟩ := h; exact ⟨h1, cs', h2, hcc.setOther _ _ hne, ha, v, hv, own_box_set ho hc (fun e => hu e.symm) j u⟩
theorem TrO.set {v : Value} {R : List TRow} (h : TrO B w v R) (hc : Cells w x cs t) (h1 : t ≠ 103) (h2 : t ≠ 63) (j : Nat) (u : Value) : TrO B (w.setCell ⟨x, j, none⟩ u) v R := by
 obtain ⟨D, q1, q2, q3⟩ := h; exact ⟨D, q1, own_box_set q2 hc (fun e => h1 e.symm) j u, fun d hd => own_box_set (q3 d hd) hc (fun e => h2 e.symm) j u⟩
end
theorem own_sl {base n sz : Nat} {E : TypeId} {w : World} {v : Value} {xs : List Value} (h : w.ownsRow base E sz v n xs) : ∃ a c, v = .slice a n c := by
 rcases h.2 with ⟨rfl, rfl⟩ | ⟨g, cap, cur, rfl, -⟩
 ·exact ⟨none, 0, rfl⟩
 ·exact ⟨_, _, rfl⟩
structure WS (B B1 g bx rx : Nat) (w : World) (L : Bs) (rv : Value) (Q : List TRow) (v : Value) (R : List TRow) : Prop where
 bw : BW B w g L
 p : Cells w bx #[.pointer (some ⟨g, 0, none⟩)] 66
 r : Cells w rx #[rv] 71
 q : RunO B1 B w rv Q
 a : TrO B w v R
 lt : ∀ k, v.ownBlock = some k -> k < B1
 le : B <= B1 /\ B1 <= rx /\ B1 <= w.heap.size
section
variable {B B1 g bx rx : Nat} {w w' : World} {L L' : Bs} {rv : Value} {Q : List TRow} {v : Value} {R : List TRow}
theorem WS.wr (h : WS B B1 g bx rx w L rv Q v R) (hw : BW B w' g L') (hp : WrP B g w w') : WS B B1 g bx rx w' L' rv Q v R :=
 ⟨hw, hp.cells h.p (h.bw.ne h.p (by decide)) (by decide), hp.cells h.r (h.bw.ne h.r (by decide)) (by decide), h.q.wr h.bw hp, h.a.wr h.bw hp, h.lt, h.le.1, h.le.2.1, by have := hp.b.size; have := h.le; omega⟩
theorem WS.below (h : WS B B1 g bx rx w L rv Q v R) (hb : Below w.heap.size w w') : WS B B1 g bx rx w' L rv Q v R :=
 h.wr (h.bw.below hb) (WrP.of hb (by have := h.bw.lt; have := h.bw.1; omega))
theorem WS.clear (h : WS B B1 g bx rx w L rv Q v R) : WS B B1 g bx rx (w.setCell ⟨rx, 0, none⟩ (.slice none 0 0)) L (.slice none 0 0) [] v R := by
 refine ⟨h.bw.set h.r (by decide) (by decide) _ _, h.p.setOther _ _ ?_, h.r.set 0 (by simp) _, RunO.nil _ _ _, h.a.set h.r (by decide) (by decide) _ _, h.lt, by simpa using h.le⟩
 rintro rfl; have h1 : w.heap[rx]? = _ := h.p; have h2 : w.heap[rx]? = _ := h.r; rw [h1] at h2; simp only [Option.some.injEq, Obj.cells.injEq] at h2; exact absurd h2.2.1 (by decide)
end
theorem writeEnd_any {B B1 g bx rx : Nat} {w : World} {L : Bs} {rv : Value} {Q : List TRow} {v : Value} {R : List TRow} (h : WS B B1 g bx rx w L rv Q v R) (hT : TabB B w) (hF : ∀ r ∈ Q, FitW r /\ (eqR r.toks).isSome = true) (hn : Q.length <= 1000000) (hl : L.length + (alnB Q).length <= 500000000) :
  Calls Tryz.prog 63 #[.pointer (some ⟨bx, 0, none⟩), .pointer (some ⟨rx, 0, none⟩)] w fun e w' => e = .returned (.tuple #[]) /\ WS B B1 g bx rx w' (L ++ alnB Q) (.slice none 0 0) [] v R /\ ∃ w2, WrP B g w w2 /\ w' = w2.setCell ⟨rx, 0, none⟩ (.slice none 0 0) := by
 have hA := align_any Q rv h.bw (h.q.tr h.le.1) hF hn hl hT; have H := Lib.hid h; have hp := h.p; have hr := h.r; have lp := hp.lt; have lr := hr.lt; have hpc0 := hp.cell 0 _ rfl; have hpf0 := hp.frozen 0; have hrc0 := hr.cell 0 _ rfl; have hrf0 := hr.frozen 0; clear h hp hr hF hl hT; go_enter Tryz.func63, Tryz.ntmps63; go_wp2_with fail; refine hA.mono ?_; rintro _ w2 ⟨rfl, hw2, hp2⟩; have H2 := Lib.hid (H.out.wr hw2 hp2); have HB := Lib.hid hp2; have hr := H2.out.r; have lr := hr.lt; clear hA hw2 hp2 hrc0 hrf0 hpc0 hpf0; have hrc0 := hr.cell 0 _ rfl; have hrf0 := hr.frozen 0; clear hr; go_wp2_with fail; refine bodyPost_end (v := .tuple #[]) (by simp [results, Tryz.results63, go_sem]) rfl ?_
 exact ⟨rfl, H2.out.clear, w2, HB.out, rfl⟩
theorem wpList_append_rowW {w : World} {ops : Array Oper} {rest : List Oper} {p : Oper} {a : Act} {Q : Exit -> Act -> World -> Prop} (hgd : p.guard = none) (s x : Operand)
  (hop : p.op = .call { callee := .builtin .append, args := #[s, x], argTypes := #[71, 71] }) (B : Nat) (lv : Value) (D : List (SlT × TRow)) (d : SlT × TRow) (hs : a.eval s = lv)
  (hown : w.ownsRow B 103 2 lv D.length (D.flatMap rowE)) (g : Nat) (hx : a.eval x = .slice (some ⟨g, 0, none⟩) 1 1) (hc : Cells w g #[slT d.1, .int .i64 d.2.dep] 103)
  (hD : D.length <= 1000000) (hbase : B <= w.heap.size)
  (hK : ∀ v' w', w'.ownsRow B 103 2 v' (D.length + 1) (D.flatMap rowE ++ rowE d) -> w.grownBy w' lv.ownBlock -> wpList Tryz.prog ops Q rest (a.put p.dst v') w') : wpList Tryz.prog ops Q (p :: rest) a w := by
 obtain ⟨i, hi1, hi2, hi3, hi4⟩ := info_parts Tryz.infoRowT; refine wpList_append_lies w hgd s x 71 hop B 103 i _ 2 32 Tryz.underlying71 hi1 hi2 hi3 hi4 rfl (by decide) lv D.length (D.flatMap rowE) hs hown ⟨g, 0, none⟩ 1 1 (rowE d) hx rfl ?_ ?_ (by omega) (by unfold maxLen; omega) (by omega) hbase _ rfl (fun g2 c2 w' h1 h2 _ _ => hK _ w' h1 h2)
 ·intro j u hu
  rw [Addr.add_lit, Nat.zero_add]; exact hc.cell _ _ (by simpa [rowE] using hu)
 ·intro u hu
  simp only [rowE, List.mem_cons, List.not_mem_nil, or_false] at hu; rcases hu with rfl | rfl <;> rfl
section
variable {B B1 g bx rx : Nat} {w w' : World} {L L' : Bs} {rv nv : Value} {Q : List TRow} {v : Value} {R : List TRow}
theorem WS.push (h : WS B B1 g bx rx w L rv Q v R) {D : List (SlT × TRow)} {d : SlT × TRow} (hD : D.map (·.2) = Q) (h0 : w.ownsRow B1 103 2 rv D.length (D.flatMap rowE)) (hDt : ∀ d ∈ D, OwnT B w (slT d.1) d.2.toks) (hd : OwnT B w (slT d.1) d.2.toks)
  (hg : w.grownBy w' rv.ownBlock) (hown : w'.ownsRow B1 103 2 nv (D.length + 1) (D.flatMap rowE ++ rowE d)) : WS B B1 g bx rx (w'.setCell ⟨rx, 0, none⟩ nv) L nv (Q ++ [d.2]) v R := by
 have hT : ∀ {E : TypeId} {base n sz : Nat} {u : Value} {xs : List Value}, w.ownsRow base E sz u n xs -> E ≠ 103 -> w'.ownsRow base E sz u n xs := fun hu hE => own_moved hu fun k e => hg.block k (World.ownsRow.lt hu k e).2 (fun q => own_own hu h0 hE k e q.symm); have hC : ∀ {k : Nat} {cs : Array Value} {t : TypeId}, Cells w k cs t -> t ≠ 103 -> Cells w' k cs t := fun hc ht => hc.kept hg (fun e => own_box h0 hc (fun q => ht q.symm) _ e.symm rfl); have hr := hC h.r (by decide)
 have hp := hC h.p (by decide)
 obtain ⟨b1, cs, b2, bc, ba, u, bu, bo⟩ := h.bw; have hbw : BW B w' g L := ⟨b1, cs, b2, hC bc (by decide), ba, u, bu, hT bo (by decide)⟩
 obtain ⟨A, a1, a2, a3⟩ := h.a
 have ha : TrO B w' v R := ⟨A, a1, own_moved a2 fun k e => hg.block k (World.ownsRow.lt a2 k e).2 (fun q => by
  have := (World.ownsRow.lt h0 k q.symm).1; have := h.lt k e
  omega), fun x hx => hT (a3 x hx) (by decide)⟩
 refine ⟨hbw.set hr (by decide) (by decide) _ _, hp.setOther _ _ ?_, hr.set 0 (by simp) _, ⟨D ++ [d], by rw [List.map_append, hD]; rfl, ?_, ?_⟩, ha.set hr (by decide) (by decide) _ _, h.lt, h.le.1, h.le.2.1, by have := hg.size; have := h.le; simp; omega⟩
 ·rintro rfl
  have h1 : w'.heap[rx]? = _ := hp; have h2 : w'.heap[rx]? = _ := hr; rw [h1] at h2; simp only [Option.some.injEq, Obj.cells.injEq] at h2; exact absurd h2.2.1 (by decide)
 ·have e : (D ++ [d]).flatMap rowE = D.flatMap rowE ++ rowE d := by simp
  rw [e, List.length_append, List.length_singleton]; exact own_box_set hown hr (by decide) _ _
 ·intro x hx
  rcases List.mem_append.1 hx with hx | hx
  ·exact own_box_set (hT (hDt x hx) (by decide)) hr (by decide) _ _
  ·rw [List.mem_singleton.1 hx]
   exact own_box_set (hT hd (by decide)) hr (by decide) _ _
end
structure WT (B B1 g bx rx : Nat) (w : World) (L : Bs) (rv : Value) (Q : List TRow) (v : Value) (R : List TRow) (rb : Nat) (s : SlT) (dep : Int) (toks : List Tok) : Prop where
 ws : WS B B1 g bx rx w L rv Q v R
 r : Cells w rb #[slT s, .int .i64 dep] 103
 t : OwnT B w (slT s) toks
section
variable {B B1 g bx rx rb : Nat} {w w' : World} {L L' : Bs} {rv : Value} {Q : List TRow} {v : Value} {R : List TRow} {s : SlT} {dep : Int} {toks : List Tok}
theorem WT.wr (h : WT B B1 g bx rx w L rv Q v R rb s dep toks) (hw : BW B w' g L') (hp : WrP B g w w') : WT B B1 g bx rx w' L' rv Q v R rb s dep toks :=
 ⟨h.ws.wr hw hp, hp.cells h.r (h.ws.bw.ne h.r (by decide)) (by decide), ownT_wr h.t h.ws.bw hp⟩
theorem WT.below (h : WT B B1 g bx rx w L rv Q v R rb s dep toks) (hb : Below w.heap.size w w') : WT B B1 g bx rx w' L rv Q v R rb s dep toks :=
 ⟨h.ws.below hb, h.r.below hb h.r.lt, h.t.below hb (Nat.le_refl _)⟩
theorem WT.end (h : WT B B1 g bx rx w L rv Q v R rb s dep toks) {w2 : World} (hp : WrP B g w w2) (hr : Cells w2 rx #[rv] 71) (hs : WS B B1 g bx rx (w2.setCell ⟨rx, 0, none⟩ (.slice none 0 0)) L' (.slice none 0 0) [] v R) : WT B B1 g bx rx (w2.setCell ⟨rx, 0, none⟩ (.slice none 0 0)) L' (.slice none 0 0) [] v R rb s dep toks := by
 have h1 := hp.cells h.r (h.ws.bw.ne h.r (by decide)) (by decide)
 refine ⟨hs, h1.setOther _ _ ?_, own_box_set (ownT_wr h.t h.ws.bw hp) hr (by decide) _ _⟩
 rintro rfl; have h2 : w2.heap[rx]? = _ := hr; have h3 : w2.heap[rx]? = _ := h1; rw [h2] at h3; simp only [Option.some.injEq, Obj.cells.injEq] at h3; exact absurd h3.2.1 (by decide)
end
theorem runs_at {R : List TRow} {k : Nat} (hk : k < R.length) (Q : List TRow) : runsF (R.drop k) Q = if (eqR R[k].toks).isSome then runsF (R.drop (k + 1)) (Q ++ [R[k]]) else alnB Q ++ (rowB R[k] ++ runsF (R.drop (k + 1)) []) := by
 rw [List.drop_eq_getElem_cons hk, runsF]
theorem write_any {B g : Nat} {w : World} {l : Bs} (R : List TRow) (v : Value) (hW : BW B w g l) (hR : TrO B w v R) (hF : ∀ r ∈ R, FitW r) (hn : R.length <= 1000000) (hl : l.length + (runsF R []).length <= 400000000) (hT : TabB B w) :
  Calls Tryz.prog 40 #[.pointer (some ⟨g, 0, none⟩), v] w fun e w' => e = .returned (.tuple #[]) /\ BW B w' g (l ++ runsF R []) /\ Below B w w' := by
 obtain ⟨ra, rc, rfl, hc1, hc2⟩ := hR.len; unfold maxLen at hc2; have hB : B <= w.heap.size := by have := hW.lt; have := hW.1; omega
 have hb1 : Below w.heap.size w (w.alloc (.cells #[.pointer (some ⟨g, 0, none⟩)] 66)) := (Below.refl _ w).alloc (Nat.le_refl _) _; have hb2 := hb1.alloc (by simp) (.cells #[.slice none 0 0] 71)
 have hc3 := (Cells.new w #[.pointer (some ⟨g, 0, none⟩)] 66).alloc (.cells #[.slice none 0 0] 71); have hc4 := Cells.new (w.alloc (.cells #[.pointer (some ⟨g, 0, none⟩)] 66)) #[.slice none 0 0] 71; simp only [World.size_alloc] at hc4
 have hlt : ∀ k, (Value.slice ra R.length rc).ownBlock = some k -> k < w.heap.size := by
  obtain ⟨D, -, q2, -⟩ := hR; exact fun k e => (World.ownsRow.lt q2 k e).2
 have hS0 : WS B w.heap.size g w.heap.size (w.heap.size + 1) ((w.alloc (.cells #[.pointer (some ⟨g, 0, none⟩)] 66)).alloc (.cells #[.slice none 0 0] 71)) l (.slice none 0 0) [] (.slice ra R.length rc) R :=
  ⟨hW.below hb2, hc3, hc4, RunO.nil _ _ _, hR.wr hW (WrP.of hb2 hB), hlt, hB, by omega, hb2.size⟩
 have H0 := Lib.hid (And.intro hS0 (hb2.mono hB)); have HF := Lib.hid hF; have HL := Lib.hid hl; have HT := Lib.hid hT; clear hW hR hF hl hb1 hb2 hc3 hc4 hS0 hT hlt; go_enter Tryz.func40, Tryz.ntmps40; go_wp2_with fail; go_loopw [11] (fun i wr => ∃ (k : Nat) (O : Bs) (rv : Value) (Q : List TRow), k <= R.length /\ i = .int .i64 (k : Int) /\ WS B w.heap.size g w.heap.size (w.heap.size + 1) wr (l ++ O) rv Q (.slice ra R.length rc) R /\ runsF R [] = O ++ runsF (R.drop k) Q /\ (∀ r ∈ Q, FitW r /\ (eqR r.toks).isSome = true) /\ Q.length <= k /\ Below B w wr) (fun i _ => R.length - (intOf i).toNat)
 case atStart => exact ⟨0, [], _, [], Nat.zero_le _, rfl, by simpa using H0.out.1, by simp, (fun r hr => by cases hr), Nat.le_refl _, H0.out.2⟩
 case round =>
  clear H0; obtain ⟨k, O, rv, Q, hk, rfl, hS, hrun, hQ, hql, hb⟩ := hrel
  by_cases hkl : k < R.length
  ·obtain ⟨b, s, rfl, hbl, hown, q0, q1⟩ := hS.a.get hkl
   obtain ⟨sa, sn, sc⟩ := s; have hFr := HF.out R[k] (List.getElem_mem hkl); have hra := runs_at hkl Q; rw [hra] at hrun
   have hsn : sn = R[k].toks.length := by
    obtain ⟨a', c', e'⟩ := hown.len; simp only [slT, Value.slice.injEq] at e'; exact e'.2.1
   have hA1 : Below wr.heap.size wr (wr.alloc (.cells #[.slice sa sn sc, .int .i64 R[k].dep] 103)) := (Below.refl _ wr).alloc (Nat.le_refl _) _; have hWT : WT B w.heap.size g w.heap.size (w.heap.size + 1) (wr.alloc (.cells #[.slice sa sn sc, .int .i64 R[k].dep] 103)) (l ++ O) rv Q (.slice (some ⟨b, 0, none⟩) R.length rc) R wr.heap.size (sa, sn, sc) R[k].dep R[k].toks := ⟨hS.below hA1, Cells.new _ _ _, hown.below hA1 (Nat.le_refl _)⟩; have hEq := tdEq_any _ _ R[k].toks R[k].dep hWT.t.toks hFr.l; have hsm : sn <= 1000000 := by have := hFr.l; omega
   have hpl := hFr.s; have hlen : (O ++ if (eqR R[k].toks).isSome then runsF (R.drop (k + 1)) (Q ++ [R[k]]) else alnB Q ++ (rowB R[k] ++ runsF (R.drop (k + 1)) [])).length = (runsF R []).length := by rw [hrun]
   have HR := Lib.hid (And.intro hrun (And.intro hQ (And.intro hb hlen))); have HWT := Lib.hid hWT; have HFR := Lib.hid hFr; have HSN := Lib.hid hsn; have HRK : Hid (R[k] = ⟨R[k].toks, R[k].dep⟩) := Lib.hid rfl; have hRb : rowB R[k] = partB R[k].toks R[k].ind 0 R[k].toks.length ++ [10] := rfl; have HRB := Lib.hid hRb; simp only [slT] at q0 hEq; clear hS hrun hQ hb hWT hFr hown hA1 hra hlen hRb hsn; generalize R[k] = r at *; obtain ⟨toks, dep⟩ := r; simp only at q1 hEq HWT HSN HR
   cases hq : eqR toks with
   | some i =>
    have hi1 := (eqR_some hq).1; rw [hq] at hEq HR; simp only [retO, Option.isSome_some, if_true] at hEq HR; have i1 : (0 : Int) < (i : Int) := by omega
    go_wp2_with fail; refine hEq.mono ?_; rintro _ w4 ⟨rfl, hb4⟩; have H4 := Lib.hid (HWT.out.below hb4); have hr := H4.out.ws.r; have hx := H4.out.r; have lr := hr.lt; have lx := hx.lt; have HB4 := Lib.hid (HR.out.2.2.1.trans (((HWT.out.ws.le.1 : _) |> fun _ => (Below.refl B wr).alloc (by have := HWT.out.ws.le; have := HR.out.2.2.1.size; omega) (.cells #[.slice sa sn sc, .int .i64 dep] 103)).trans (hb4.mono (by have := HWT.out.ws.le; simp at *; omega))))
    have hx0 := hx.cell 0 (.slice sa sn sc) rfl; have hx1 := hx.cell 1 _ rfl; have hrc0 := hr.cell 0 _ rfl; have hrf0 := hr.frozen 0; clear hEq hb4 hr hx q0 q1; go_wp2_with (with_reducible first | refine stop_append ?_)
    refine Stop.out ?_; have h5 := H4.out.below ((Below.refl _ w4).alloc (Nat.le_refl _) (.cells #[.slice sa sn sc, .int .i64 dep] 103)); obtain ⟨D, d1, d2, d3⟩ := h5.ws.q; have hDl : D.length = Q.length := by rw [<- d1, List.length_map]
    refine wpList_append_rowW rfl _ _ rfl w.heap.size rv D ((sa, sn, sc), ⟨toks, dep⟩) rfl (by exact d2) w4.heap.size rfl (by exact Cells.new w4 #[.slice sa sn sc, .int .i64 dep] 103) (by omega) (by have := h5.ws.le; exact this.2.2) ?_
    intro nv w6 ho6 hg6; obtain ⟨na, nc, rfl⟩ := own_sl ho6; have h6 := h5.ws.push d1 d2 d3 h5.t hg6 ho6; have hr6 := h5.ws.r.kept hg6 (fun e => own_box d2 h5.ws.r (by decide) _ e.symm rfl)
    have HB6 := Lib.hid ((HB4.out.alloc (by have := HB4.out.size; have := H4.out.ws.le; omega) (.cells #[.slice sa sn sc, .int .i64 dep] 103)).grown hg6 (by have := h5.ws.le; omega) (fun j e => by have := (World.ownsRow.lt d2 j e).1; have := h5.ws.le; omega))
    have H6 := Lib.hid h6; clear h5 d1 d2 d3 ho6 hg6 h6 hrc0 hrf0 lr lx hx0 hx1 hDl; have lr := hr6.lt; have hr6c0 := hr6.cell 0 _ rfl; have hr6f0 := hr6.frozen 0; clear hr6; go_wp2_with fail; go_roundw
    case rel => exact ⟨k + 1, O, _, Q ++ [⟨toks, dep⟩], hkl, by go_num, H6.out, HR.out.1, (fun x hx => by
     rcases List.mem_append.1 hx with hx | hx
     ·exact HR.out.2.1 x hx
     ·rw [List.mem_singleton.1 hx]; exact ⟨HFR.out, by rw [hq]; rfl⟩), by simp; omega, HB6.out.setCell (by have := H4.out.ws.le; show B <= w.heap.size + 1; omega) _⟩
    case measure => simp [intOf]; omega
   | none =>
    rw [hq] at hEq HR; simp only [retO, Option.isSome_none, Bool.false_eq_true, if_false] at hEq HR; have hsz1 := HR.out.2.2.2; simp only [List.length_append] at hsz1; have hL2 := HL.out; have hrl : (rowB ⟨toks, dep⟩).length = (partB toks (TRow.ind ⟨toks, dep⟩) 0 toks.length).length + 1 := by rw [HRB.out]; simp
    have H4' : ∀ {w4}, Below (wr.alloc (.cells #[.slice sa sn sc, .int .i64 dep] 103)).heap.size (wr.alloc (.cells #[.slice sa sn sc, .int .i64 dep] 103)) w4 -> Below B w w4 := fun hb4 => HR.out.2.2.1.trans (((Below.refl B wr).alloc (by have := HWT.out.ws.le; have := HR.out.2.2.1.size; omega) (.cells #[.slice sa sn sc, .int .i64 dep] 103)).trans (hb4.mono (by have := HWT.out.ws.le; simp at *; omega)))
    go_wp2_with fail; refine hEq.mono ?_; rintro _ w4 ⟨rfl, hb4⟩; have H4 := Lib.hid (HWT.out.below hb4); have HB4 := Lib.hid (H4' hb4); have hEnd := writeEnd_any H4.out.ws (HT.out.go HB4.out) HR.out.2.1 (by omega) (by simp only [List.length_append]; omega)
    clear hEq hb4 H4' q0 q1; go_wp2_with fail; refine hEnd.mono ?_; rintro _ w5 ⟨rfl, h5, w2, hp2, rfl⟩; have h6 := H4.out.end hp2 (hp2.cells H4.out.ws.r (H4.out.ws.bw.ne H4.out.ws.r (by decide)) (by decide)) h5
    have HB6 := Lib.hid (HB4.out.trans (hp2.b.setCell (p := ⟨w.heap.size + 1, 0, none⟩) (by have := H4.out.ws.le; show B <= w.heap.size + 1; omega) (.slice none 0 0)))
    obtain ⟨w7, hw7⟩ : ∃ x, x = w2.setCell ⟨w.heap.size + 1, 0, none⟩ (.slice none 0 0) := ⟨_, rfl⟩; rw [<- hw7] at h6 HB6 ⊢; have H6 := Lib.hid h6; have a0 := h6.ws.p.cell 0 _ rfl; have a1 := h6.r.cell 0 (.slice sa sn sc) rfl; have a2 := h6.r.cell 1 _ rfl; have a3 := h6.ws.p.lt; have a4 := h6.r.lt; clear hEnd h5 hp2 h6 hw7
    have H7 : Hid (∀ W, Below w7.drew.heap.size w7.drew W -> WT B w.heap.size g w.heap.size (w.heap.size + 1) W (l ++ O ++ alnB Q) (.slice none 0 0) [] (.slice (some ⟨b, 0, none⟩) R.length rc) R wr.heap.size (sa, sn, sc) dep toks /\ Below B w W) := Lib.hid fun W hW => by
     have hW' := ((Below.refl w7.heap.size w7).drew).trans hW; exact ⟨H6.out.below hW', HB6.out.trans (hW'.mono (by have := H6.out.ws.le; have := HB6.out.size; omega))⟩
    have hPt : ∀ W, WT B w.heap.size g w.heap.size (w.heap.size + 1) W (l ++ O ++ alnB Q) (.slice none 0 0) [] (.slice (some ⟨b, 0, none⟩) R.length rc) R wr.heap.size (sa, sn, sc) dep toks /\ Below B w W ->
      Calls Tryz.prog 67 #[.agg #[.slice sa sn sc, .int .i64 dep], .int .i64 0, .int .i64 (sn : Nat)] W fun e w' => e = .returned (.string (strL (partB toks (TRow.ind ⟨toks, dep⟩) 0 toks.length))) /\ WT B w.heap.size g w.heap.size (w.heap.size + 1) w' (l ++ O ++ alnB Q) (.slice none 0 0) [] (.slice (some ⟨b, 0, none⟩) R.length rc) R wr.heap.size (sa, sn, sc) dep toks /\ Below B w w' := fun W ⟨h, hb⟩ => by
     rw [HSN.out] at h ⊢; have h2 := h.t; refine (tdPart_any W _ toks dep 0 toks.length h2.toks HFR.out.d (Nat.zero_le _) (Nat.le_refl _) HFR.out.l (by have := HFR.out.s; simp only [TRow.ind] at this ⊢; omega)).mono ?_
     rintro e w' ⟨rfl, hb'⟩; exact ⟨rfl, h.below hb', hb.trans (hb'.mono (by have := h.ws.le; omega))⟩
    have HPR : Hid ((strL (partB toks (TRow.ind ⟨toks, dep⟩) 0 toks.length)).data.toList = partB toks (TRow.ind ⟨toks, dep⟩) 0 toks.length) := Lib.hid rfl; generalize strL (partB toks (TRow.ind ⟨toks, dep⟩) 0 toks.length) = pr at *; have HRW : Hid (catS [pr, ⟨#[10]⟩] = rowB ⟨toks, dep⟩) := Lib.hid (by rw [HRB.out, <- HPR.out]; simp [catS])
    have hPut : ∀ W, WT B w.heap.size g w.heap.size (w.heap.size + 1) W (l ++ O ++ alnB Q) (.slice none 0 0) [] (.slice (some ⟨b, 0, none⟩) R.length rc) R wr.heap.size (sa, sn, sc) dep toks /\ Below B w W ->
      Calls Tryz.prog 66 #[.pointer (some ⟨g, 0, none⟩), .slice (some ⟨W.heap.size, 0, none⟩) 2 2] (W.alloc (.cells #[.string pr, .string ⟨#[10]⟩] 9)) fun e w' => e = .returned (.tuple #[]) /\ WT B w.heap.size g w.heap.size (w.heap.size + 1) w' (l ++ O ++ alnB Q ++ rowB ⟨toks, dep⟩) (.slice none 0 0) [] (.slice (some ⟨b, 0, none⟩) R.length rc) R wr.heap.size (sa, sn, sc) dep toks /\ Below B w w' := fun W ⟨h, hb⟩ => by
     have hA : Below W.heap.size W (W.alloc (.cells #[.string pr, .string ⟨#[10]⟩] 9)) := (Below.refl _ W).alloc (Nat.le_refl _) _; have h2 := h.below hA; refine (put_any [pr, ⟨#[10]⟩] h2.ws.bw (Cells.new W #[.string pr, .string ⟨#[10]⟩] 9) (by rw [HRW.out]; simp only [List.length_append]; omega) (by simp)).mono ?_
     rintro e w' ⟨rfl, h5, h6⟩; rw [HRW.out] at h5; exact ⟨rfl, h2.wr h5 h6, (hb.trans (hA.mono (by have := h.ws.le; omega))).trans h6.b⟩
    clear hsz1 hL2 hrl hpl; go_upto_region 9 with fail
    go_region_held3 (fun w' => w'.cell? ⟨w.heap.size, 0, none⟩ = some (.pointer (some ⟨g, 0, none⟩)) /\ w'.cell? ⟨wr.heap.size, 0, none⟩ = some (.slice sa sn sc) /\ w'.cell? ⟨wr.heap.size, 1, none⟩ = some (.int .i64 dep)) (first | (with_reducible exact ⟨a0, a1, a2⟩) | (with_reducible exact ⟨g60, g61, g62⟩) | (with_reducible exact ⟨g50, g51, g52⟩) | go_keep) (first
     | (go_at_call 66; (refine (hPut _ hx8).mono ?_); rintro _ w9 ⟨rfl, hx9⟩; have g60 := hx9.1.ws.p.cell 0 _ rfl; have g61 := hx9.1.r.cell 0 (.slice sa sn sc) rfl; have g62 := hx9.1.r.cell 1 _ rfl)
     | (go_at_call 67; (with_reducible refine (hPt _ (H7.out _ (Below.refl _ _))).mono ?_); rintro _ w8 ⟨rfl, hx8⟩; have g50 := hx8.1.ws.p.cell 0 _ rfl; have g51 := hx8.1.r.cell 0 (.slice sa sn sc) rfl; have g52 := hx8.1.r.cell 1 _ rfl; have z5 := hx8.1.ws.p.lt; have z6 := hx8.1.r.lt))
    all_goals
     have HN := Lib.hid hx9; clear hx8 hx9 g50 g51 g52 g60 g61 g62 z5 z6 H7 hPt hPut a0 a1 a2 a3 a4; go_wp2_with fail; go_roundw
     case rel => exact ⟨k + 1, O ++ (alnB Q ++ rowB ⟨toks, dep⟩), _, [], hkl, by go_num, by simpa using HN.out.1.ws, by rw [HR.out.1]; simp, (fun x hx => by cases hx), Nat.zero_le _, HN.out.2⟩
     case measure => simp [intOf]; omega
  ·obtain rfl : k = R.length := by omega
   rw [List.drop_length, runsF] at hrun; have hlen : (runsF R []).length = (O ++ alnB Q).length := by rw [hrun]
   rw [List.length_append] at hlen; have hL2 := HL.out; have hEnd := writeEnd_any hS (HT.out.go hb) hQ (by omega) (by simp only [List.length_append]; omega)
   have HS := Lib.hid (And.intro hS (And.intro hrun hb)); clear hS hrun hQ hb hlen hL2; go_wp2_with fail; refine hEnd.mono ?_; rintro _ w5 ⟨rfl, h5, w2, hp2, rfl⟩
   have HN : Hid (BW B (w2.setCell ⟨w.heap.size + 1, 0, none⟩ (.slice none 0 0)) g (l ++ runsF R []) /\ Below B w (w2.setCell ⟨w.heap.size + 1, 0, none⟩ (.slice none 0 0))) := Lib.hid ⟨by
    rw [HS.out.2.1, <- List.append_assoc]
    exact h5.bw, HS.out.2.2.trans (hp2.b.setCell (p := ⟨w.heap.size + 1, 0, none⟩) (by have := HS.out.1.le; show B <= w.heap.size + 1; omega) (.slice none 0 0))⟩
   clear hEnd h5 hp2; go_wp2_with fail; refine bodyPost_end (v := .tuple #[]) (by simp [results, Tryz.results40, go_sem]) rfl ?_
   exact ⟨rfl, HN.out.1, HN.out.2⟩
def neF : List (List Tok) -> Nat -> Option Nat
 | [], _ => none
 | [] :: r, i => neF r (i + 1)
 | (_ :: _) :: _, i => some i
theorem neF_drop (L : List (List Tok)) : ∀ (m k : Nat), L.length <= k + m -> match neF (L.drop k) k with
  | some j => ∃ h : j < L.length, k <= j /\ L[j] ≠ [] /\ dropE (L.drop k) = L[j] :: L.drop (j + 1)
  | none => dropE (L.drop k) = []
 | 0, k, h => by rw [List.drop_eq_nil_of_le (by omega)]; rfl
 | m + 1, k, h => by
  by_cases hk : k < L.length
  ·rw [List.drop_eq_getElem_cons hk]
   cases hr : L[k] with
   | nil =>
    have ih := neF_drop L m (k + 1) (by omega)
    simp only [neF, dropE]; split at ih
    ·obtain ⟨h1, h2, h3⟩ := ih
     exact ⟨h1, by omega, h3⟩
    ·exact ih
   | cons t q =>
    simp only [neF, dropE]; refine ⟨hk, Nat.le_refl _, by rw [hr]; simp, by rw [hr]⟩
  ·rw [List.drop_eq_nil_of_le (by omega)]; rfl
def bareN (L : List (List Tok)) (i : Nat) : Nat :=
 if lastR (L[i]?.getD []) then (match neF (L.drop (i + 1)) (i + 1) with
  | some j => if headR (L[j]?.getD []) then j else 0
  | none => 0) else 0
theorem jn_bare {L : List (List Tok)} {i : Nat} (h : i < L.length) :
  (bareN L i = 0 /\ jnR L[i] (L.drop (i + 1)) = (L[i], L.drop (i + 1))) \/ ∃ j, ∃ h2 : j < L.length, bareN L i = j /\ i < j /\ L[j] ≠ [] /\ jnR L[i] (L.drop (i + 1)) = (L[i] ++ L[j], L.drop (j + 1)) := by
 unfold bareN jnR; rw [List.getElem?_eq_getElem h, Option.getD_some]
 by_cases hl : lastR L[i] = true
 ·rw [if_pos hl, if_pos hl]
  have hn := neF_drop L L.length (i + 1) (by omega)
  split at hn
  ·next j hj =>
   obtain ⟨h1, h2, h3, h4⟩ := hn; simp only [hj, List.getElem?_eq_getElem h1, Option.getD_some, h4]
   by_cases hh : headR L[j] = true
   ·exact .inr ⟨j, h1, by rw [if_pos hh], by omega, h3, by rw [if_pos hh]⟩
   ·exact .inl ⟨by rw [if_neg hh], by rw [if_neg hh]⟩
  ·next hj =>
   simp only [hj, hn]; exact .inl ⟨by trivial, by trivial⟩
 ·rw [if_neg hl, if_neg hl]
  exact .inl ⟨rfl, rfl⟩
theorem lastR_get {r : List Tok} {m : Nat} (h : r.length = m + 1) : lastR r = isB (r[m]'(by omega)) sLc := by
 unfold lastR; have e : r.length - 1 = m := by omega
 rw [List.getLast?_eq_getElem?]; simp only [e]; rw [List.getElem?_eq_getElem (by omega)]
theorem headR_get {r : List Tok} (h : 0 < r.length) : headR r = isB r[0] sRc := by
 cases r with
 | nil => simp at h
 | cons t r => rfl
theorem neF_go {L : List (List Tok)} {k : Nat} (h : k < L.length) (h0 : L[k].length = 0) : neF (L.drop k) k = neF (L.drop (k + 1)) (k + 1) := by
 rw [List.drop_eq_getElem_cons h, List.eq_nil_of_length_eq_zero h0, neF]
theorem neF_hit {L : List (List Tok)} {k : Nat} (h : k < L.length) (h0 : L[k].length ≠ 0) : neF (L.drop k) k = some k := by
 rw [List.drop_eq_getElem_cons h]
 cases hr : L[k] with
 | nil => rw [hr] at h0; exact absurd rfl h0
 | cons t q => rfl
theorem bare_any {B : Nat} (w : World) (v : Value) (L : List (List Tok)) (h : TkAt B w v L) (i : Nat) (hi : i < L.length) (hne : L[i] ≠ []) (hn : L.length <= 1000000) (hl : ∀ r ∈ L, r.length <= 1000000) :
  Calls Tryz.prog 68 #[v, .int .i64 (i : Nat)] w fun e w' => e = .returned (.int .i64 (bareN L i : Nat)) /\ Below w.heap.size w w' := by
 obtain ⟨va, vc, rfl, hc1, hc2, -⟩ := h.len; unfold maxLen at hc2; obtain ⟨b, off, s, rfl, hbl, hown, q0⟩ := h.get hi; obtain ⟨sa, sn, sc⟩ := s; obtain ⟨m, hm⟩ : ∃ m, L[i].length = m + 1 := ⟨L[i].length - 1, by have := List.length_pos_iff.2 hne; omega⟩
 have hl1 := hl L[i] (List.getElem_mem hi)
 have hsn : sn = L[i].length := by
  obtain ⟨a', c', e'⟩ := hown.len; simp only [slT, Value.slice.injEq] at e'; exact e'.2.1
 rw [hm] at hsn; subst hsn; obtain ⟨tb, toff, rfl, htl, r0, r1, r2⟩ := hown.toks.get (j := m) (by omega)
 have hLR := lastR_get hm
 have hBN : bareN L i = if lastR L[i] then (match neF (L.drop (i + 1)) (i + 1) with
  | some j => if headR (L[j]?.getD []) then j else 0
  | none => 0) else 0 := by unfold bareN; rw [List.getElem?_eq_getElem hi, Option.getD_some]
 rw [hLR] at hBN; have HBN := Lib.hid hBN; have hS := tdSgn_any L[i][m] sLc w; have HT := Lib.hid h; have HNN := Lib.hid hl; have kq : IntKind.i64.wrap ((m : Int) + 1 - 1) = (m : Int) := by rw [IntWalk.i64_in _ (by omega)]; omega
 have kq3 : wrap64 (m : Int) = (m : Int) := IntWalk.wrap64_in _ (by omega)
 simp only [slT] at q0; clear hLR hBN h hown hl hne; generalize L[i][m] = t at *; obtain ⟨kd, tx, ps⟩ := t; simp only [tokV] at hS r0 r1 r2 HBN; generalize isB ⟨kd, tx, ps⟩ sLc = lb at *; clear hm hl1
 cases lb with
 | false =>
  go_enter Tryz.func68, Tryz.ntmps68; go_wp2_with fail; refine hS.mono ?_; rintro _ _ ⟨rfl, rfl⟩; clear hS; go_wp2_with fail; go_ret; rw [HBN.out]; exact ⟨rfl, (Below.refl _ w).alloc (Nat.le_refl _) _⟩
 | true =>
  go_enter Tryz.func68, Tryz.ntmps68; go_wp2_with fail; refine hS.mono ?_; rintro _ _ ⟨rfl, rfl⟩; clear hS; have HB1 := Lib.hid (tokB_below w ⟨kd, tx, ps⟩); go_wp2_with fail; go_loopw [6] (fun x wr => ∃ k : Nat, i + 1 <= k /\ k <= L.length /\ x = .int .i64 (k : Int) /\ Hid (neF (L.drop k) k = neF (L.drop (i + 1)) (i + 1)) /\ Below w.heap.size w wr) (fun x _ => L.length - (intOf x).toNat)
  case atStart => exact ⟨i + 1, Nat.le_refl _, hi, by go_num, Lib.hid rfl, HB1.out⟩
  case round =>
   clear HB1 q0 r0 r1 r2 htl; obtain ⟨k, hk0, hk, rfl, HA, hb⟩ := hrel; have HB := Lib.hid hb
   by_cases hkl : k < L.length
   ·obtain ⟨b2, off2, s2, e2, hbl2, hown2, p0⟩ := (HT.out.below hb).get hkl
    cases e2
    obtain ⟨ta, tn, tc⟩ := s2
    have hsn2 : tn = L[k].length := by
     obtain ⟨a', c', e'⟩ := hown2.len; simp only [slT, Value.slice.injEq] at e'; exact e'.2.1
    simp only [slT] at p0; have hll := HNN.out L[k] (List.getElem_mem hkl)
    by_cases h0 : tn = 0
    ·subst h0
     have HG := Lib.hid (neF_go hkl hsn2.symm); clear hb hown2 hsn2 hll; go_wp2_with fail; go_roundw
     case rel => exact ⟨k + 1, by omega, hkl, by go_num, Lib.hid (by rw [<- HA.out, HG.out]), HB.out⟩
     case measure => simp [intOf] <;> omega
    ·obtain ⟨n, rfl⟩ : ∃ n, tn = n + 1 := ⟨tn - 1, by omega⟩
     have e0 : (((n + 1 : Nat) : Int) == 0) = false := by simp; omega
     have HG := Lib.hid (neF_hit hkl (by omega))
     obtain ⟨tb2, toff2, rfl, htl2, r0, r1, r2⟩ := hown2.toks.get (j := 0) (by omega)
     have hHR := headR_get (r := L[k]) (by omega)
     have HBN2 : Hid (bareN L i = if isB (L[k][0]'(by omega)) sRc then k else 0) := Lib.hid (by
      rw [HBN.out, if_pos (by trivial), <- HA.out, HG.out]
      simp only [List.getElem?_eq_getElem hkl, Option.getD_some, hHR])
     have hS := tdSgn_any (L[k][0]'(by omega)) sRc wr
     generalize (L[k][0]'(by omega)) = t2 at *
     obtain ⟨kd2, tx2, ps2⟩ := t2; simp only [tokV, Nat.zero_mul, Nat.add_zero] at hS r0 r1 r2; generalize isB ⟨kd2, tx2, ps2⟩ sRc = rb at *; clear hb hown2 hsn2 hll hHR h0; go_wp2_with fail; refine hS.mono ?_; rintro _ _ ⟨rfl, rfl⟩; clear hS; cases rb
     all_goals
      go_wp2_with fail; go_ret; rw [HBN2.out]; exact ⟨rfl, HB.out.alloc HB.out.size _⟩
   ·obtain rfl : k = L.length := by omega
    have HE : Hid (bareN L i = 0) := Lib.hid (by rw [HBN.out, if_pos (by trivial), <- HA.out, List.drop_length]; rfl)
    clear hb; go_wp2_with fail; go_ret; rw [HE.out]; exact ⟨rfl, HB.out⟩
def pvO (Q : List TRow) : Option Bool := Q.getLast?.map (fun r => opR r.toks)
def MrI (L : List (List Tok)) (i : Nat) (gap : Bool) (d : Int) (Q : List TRow) : Prop := ∃ f, (L.drop i).length <= f /\ tidyR L = Q ++ mrgF (effM f gap (L.drop i)) d (pvO Q)
theorem MrI.start (L : List (List Tok)) : MrI L 0 false 0 [] := ⟨L.length, by simp, rfl⟩
theorem MrI.empty {L : List (List Tok)} {i : Nat} {gap : Bool} {d : Int} {Q : List TRow} (h : MrI L i gap d Q) (hi : i < L.length) (h0 : L[i] = []) : MrI L (i + 1) true d Q := by
 obtain ⟨f, h1, h2⟩ := h; rw [List.length_drop] at h1; obtain ⟨g, rfl⟩ : ∃ g, f = g + 1 := ⟨f - 1, by omega⟩
 refine ⟨g, by rw [List.length_drop]; omega, ?_⟩
 rw [h2, List.drop_eq_getElem_cons hi, h0, effM]
def gapT2 (gap : Bool) (pv : Option Bool) (T : List Tok) : List TRow := if gap && (pv.isSome && (!clR T && pv != some true)) then [⟨[], 0⟩] else []
theorem MrI.row {L : List (List Tok)} {i i2 : Nat} {gap : Bool} {d : Int} {Q : List TRow} (h : MrI L i gap d Q) (hi : i < L.length) (h0 : L[i] ≠ []) {T : List Tok} (hj : jnR L[i] (L.drop (i + 1)) = (T, L.drop i2)) (hi2 : i < i2) :
  MrI L i2 false (nxtO d T) (Q ++ gapT2 gap (pvO Q) T ++ [⟨T, depR d T⟩]) := by
 obtain ⟨f, h1, h2⟩ := h; rw [List.length_drop] at h1; obtain ⟨g, rfl⟩ : ∃ g, f = g + 1 := ⟨f - 1, by omega⟩
 refine ⟨g, by rw [List.length_drop]; omega, ?_⟩
 rw [h2, List.drop_eq_getElem_cons hi]
 cases hr : L[i] with
 | nil => exact absurd hr h0
 | cons t q =>
  rw [hr] at hj; rw [effM, hj, mrgF]; have e : pvO (Q ++ gapT2 gap (pvO Q) T ++ [⟨T, depR d T⟩]) = some (opR T) := by unfold pvO; rw [List.getLast?_concat]; rfl
  rw [e]; unfold gapT2; simp only [List.append_assoc]; rfl
theorem MrI.end {L : List (List Tok)} {gap : Bool} {d : Int} {Q : List TRow} (h : MrI L L.length gap d Q) : tidyR L = Q := by
 obtain ⟨f, h1, h2⟩ := h; rw [h2, List.drop_length]; cases f <;> simp [effM, mrgF]
theorem RunO.shape {B1 B : Nat} {w : World} {v : Value} {R : List TRow} (h : RunO B1 B w v R) : ∃ a c, v = .slice a R.length c := by
 obtain ⟨D, rfl, h2, -⟩ := h; obtain ⟨a, c, e⟩ := own_sl h2; exact ⟨a, c, by rw [e, List.length_map]⟩
theorem toks_news {w : World} {b off c : Nat} {l : List Tok} (h : ToksAt w (.slice (some ⟨b, off, none⟩) l.length c) l) : ∀ j u, (l.flatMap tokC)[j]? = some u -> w.cell? ((⟨b, off, none⟩ : Addr).add j) = some u := by
 intro j u hu
 have hlen : (l.flatMap tokC).length = l.length * 3 := by
  clear h hu
  induction l with
  | nil => rfl
  | cons t l ih => rw [List.flatMap_cons, List.length_append, ih]; simp [tokC]; omega
 have hj : j < l.length * 3 := by rw [<- hlen]; exact (List.getElem?_eq_some_iff.1 hu).1
 obtain ⟨q, r, hr, rfl⟩ : ∃ q r, r < 3 /\ j = q * 3 + r := ⟨j / 3, j % 3, Nat.mod_lt _ (by omega), by omega⟩
 have hq : q < l.length := by omega
 obtain ⟨f1, f2, f3⟩ := flat_tok l q hq; obtain ⟨b', o', e', -, g1, g2, g3⟩ := h.get hq; cases e'
 rw [Addr.add_lit, <- Nat.add_assoc]
 match r, hr with
 | 0, _ => rw [Nat.add_zero] at hu ⊢; rw [f1] at hu; cases hu; exact g1
 | 1, _ => rw [f2] at hu; cases hu; exact g2
 | 2, _ => rw [f3] at hu; cases hu; exact g3
theorem toks_one (l : List Tok) : ∀ u ∈ l.flatMap tokC, u.oneCell' = true := by
 intro u hu; obtain ⟨t, -, ht⟩ := List.mem_flatMap.1 hu; exact tokC_one t u ht
theorem toks_len (l : List Tok) : (l.flatMap tokC).length = l.length * 3 := by
 induction l with
 | nil => rfl
 | cons t l ih => rw [List.flatMap_cons, List.length_append, ih]; simp [tokC]; omega
theorem own_addr {base : Nat} {w : World} {a : Option Addr} {n c : Nat} {l : List Tok} (h : OwnT base w (.slice a n c) l) (hl : l ≠ []) : n = l.length /\ ∃ g, a = some ⟨g, 0, none⟩ /\ g < w.heap.size := by
 obtain ⟨h1, h2⟩ := h; rcases h2 with ⟨-, h3⟩ | ⟨g, cap', cur, he, hb, hg, h3, h4, h5, h6⟩
 ·exact absurd (List.eq_nil_of_length_eq_zero h3) hl
 ·cases he
  exact ⟨rfl, g, rfl, (Array.getElem?_eq_some_iff.1 hg).1⟩
theorem RunO.moved {B1 B : Nat} {w w' : World} {v : Value} {R : List TRow} (h : RunO B1 B w v R) (h1 : ∀ k, v.ownBlock = some k -> w'.heap[k]? = w.heap[k]?) (h2 : ∀ {u : Value} {l : List Tok}, OwnT B w u l -> OwnT B w' u l) : RunO B1 B w' v R := by
 obtain ⟨D, q1, q2, q3⟩ := h; exact ⟨D, q1, own_moved q2 h1, fun d hd => h2 (q3 d hd)⟩
theorem RunO.lt {B1 B : Nat} {w : World} {v : Value} {R : List TRow} (h : RunO B1 B w v R) : ∀ k, v.ownBlock = some k -> B1 <= k /\ k < w.heap.size := by
 obtain ⟨D, -, q2, -⟩ := h; exact fun k e => World.ownsRow.lt q2 k e
theorem MX_below {B x : Nat} {w w1 w2 : World} {cs : Array Value} {t : TypeId} {u v : Value} {T : List Tok} {Q : List TRow} (h : Cells w1 x cs t /\ OwnT B w1 u T /\ RunO w.heap.size B w1 v Q /\ Below w.heap.size w w1) (hb : Below w1.heap.size w1 w2) :
  Cells w2 x cs t /\ OwnT B w2 u T /\ RunO w.heap.size B w2 v Q /\ Below w.heap.size w w2 :=
 ⟨h.1.below hb h.1.lt, h.2.1.below hb (Nat.le_refl _), h.2.2.1.moved (fun k e => hb.block k (h.2.2.1.lt k e).2) (fun h => h.below hb (Nat.le_refl _)), below_more h.2.2.2 hb⟩
theorem RunO.push {B1 B : Nat} {w w' : World} {v nv : Value} {Q : List TRow} {D : List (SlT × TRow)} {d : SlT × TRow} (hD : D.map (·.2) = Q) (h0 : w.ownsRow B1 103 2 v D.length (D.flatMap rowE)) (hDt : ∀ d ∈ D, OwnT B w (slT d.1) d.2.toks) (hd : OwnT B w (slT d.1) d.2.toks)
  (hg : w.grownBy w' v.ownBlock) (hown : w'.ownsRow B1 103 2 nv (D.length + 1) (D.flatMap rowE ++ rowE d)) : RunO B1 B w' nv (Q ++ [d.2]) := by
 have hT : ∀ {u : Value} {l : List Tok}, OwnT B w u l -> OwnT B w' u l := fun hu => own_moved hu fun k e => hg.block k (World.ownsRow.lt hu k e).2 (fun q => own_own hu h0 (by decide) k e q.symm)
 refine ⟨D ++ [d], by rw [List.map_append, hD]; rfl, ?_, ?_⟩
 ·rw [List.flatMap_append, List.length_append]
  simpa using hown
 ·intro x hx
  rcases List.mem_append.1 hx with hx | hx
  ·exact hT (hDt x hx)
  ·rw [List.mem_singleton.1 hx]; exact hT hd
theorem merge_any {B : Nat} (w : World) (v : Value) (L : List (List Tok)) (h : TkAt B w v L) (hB : B <= w.heap.size) (hn : L.length <= 1000000) (hl : ∀ r ∈ L, r.length <= 400000) :
  Calls Tryz.prog 41 #[v] w fun e w' => ∃ v', e = .returned v' /\ RunO w.heap.size B w' v' (tidyR L) /\ Below w.heap.size w w' := by
 obtain ⟨va, vc, rfl, hc1, hc2, -⟩ := h.len; unfold maxLen at hc2; have HT := Lib.hid h; have HL := Lib.hid hl; clear h hl; go_enter Tryz.func41, Tryz.ntmps41; go_wp2_with fail; go_loopw [3, 4, 5, 6] (fun ov gv dv iv wr => ∃ (k : Nat) (gap : Bool) (d : Int) (Q : List TRow), k <= L.length /\ iv = .int .i64 (k : Int) /\ gv = .bool gap /\ dv = .int .i64 d /\ (-(k : Int) <= d /\ d <= k) /\ RunO w.heap.size B wr ov Q /\ (Q.length <= k /\ (gap = true -> Q.length + 1 <= k)) /\ Hid (MrI L k gap d Q /\ ∀ r ∈ Q, r.toks.length <= 900000) /\ Below w.heap.size w wr) (fun _ _ _ iv _ => L.length - (intOf iv).toNat)
 case atStart => exact ⟨0, false, 0, [], Nat.zero_le _, rfl, rfl, rfl, by omega, RunO.nil _ _ _, ⟨Nat.le_refl _, fun h => by cases h⟩, Lib.hid ⟨MrI.start L, fun r h => by cases h⟩, Below.refl _ _⟩
 case round =>
  obtain ⟨k, gap, d, Q, hk, rfl, rfl, rfl, hd, hQ, hql, HM, hb⟩ := hrel
  by_cases hkl : k < L.length
  ·obtain ⟨b, off, s, rfl, hbl, hown, q0⟩ := (HT.out.below hb).get hkl
   obtain ⟨sa, sn, sc⟩ := s
   have hsn : sn = L[k].length := by
    obtain ⟨a', c', e'⟩ := hown.len; simp only [slT, Value.slice.injEq] at e'; exact e'.2.1
   have hll := HL.out L[k] (List.getElem_mem hkl); have HSN := Lib.hid hsn; have hw1 := hb.size; simp only [slT] at q0; obtain ⟨oa, oc, rfl⟩ := hQ.shape; have HS := Lib.hid (And.intro hQ (And.intro hb hown)); have hA1 : Below wr.heap.size wr (wr.alloc (.cells #[.slice sa sn sc, .int .i64 0] 103)) := (Below.refl _ wr).alloc (Nat.le_refl _) _; have HA := Lib.hid hA1; clear hQ hb hown hsn hA1
   by_cases h0 : sn = 0
   ·subst h0
    have HE : Hid (MrI L (k + 1) true d Q /\ ∀ r ∈ Q, r.toks.length <= 900000) := Lib.hid ⟨HM.out.1.empty hkl (List.eq_nil_of_length_eq_zero HSN.out.symm), HM.out.2⟩; go_wp2_with fail; go_roundw
    case rel => exact ⟨k + 1, true, d, Q, hkl, by go_num, rfl, rfl, by omega, (by obtain ⟨D, h1, h2, h3⟩ := HS.out.1; exact ⟨D, h1, World.ownsRow.alloc h2 _, fun x hx => (h3 x hx).alloc _⟩), ⟨by omega, fun _ => by omega⟩, HE, HS.out.2.1.alloc hw1 _⟩
    case measure => simp [intOf]; omega
   ·have e0 : ((sn : Int) == 0) = false := by simpa using h0
    have hne : L[k] ≠ [] := fun e => h0 (by rw [HSN.out, e]; rfl)
    have hBr := bare_any _ _ L ((HT.out.below HS.out.2.1).below HA.out) k hkl hne hn (fun r hr => by have := HL.out r hr; omega)
    have hjn := jn_bare hkl; obtain ⟨nx, hnx⟩ : ∃ x, x = bareN L k := ⟨_, rfl⟩; rw [<- hnx] at hBr hjn; clear hnx; go_wp2_with fail; refine hBr.mono ?_; rintro _ w4 ⟨rfl, hb4⟩; have HNE := Lib.hid hne; clear hBr hne; have hw4 : w.heap.size <= w4.heap.size := by have := hb4.size; simp at this; omega
    have hX4 : Hid (Cells w4 wr.heap.size #[.slice sa sn sc, .int .i64 0] 103 /\ OwnT B w4 (slT (sa, sn, sc)) L[k] /\ RunO w.heap.size B w4 (.slice oa Q.length oc) Q /\ Below w.heap.size w w4 /\ TkAt B w4 (.slice (some ⟨b, off, none⟩) L.length vc) L) := Lib.hid (by
     have hb5 : Below wr.heap.size wr w4 := HA.out.trans (hb4.mono (by simp))
     refine ⟨(Cells.new wr #[.slice sa sn sc, .int .i64 0] 103).below hb4 (by simp), HS.out.2.2.below hb5 (Nat.le_refl _), ?_, below_more HS.out.2.1 hb5, (HT.out.below HS.out.2.1).below hb5⟩
     obtain ⟨D, h1, h2, h3⟩ := HS.out.1
     exact ⟨D, h1, own_moved h2 (fun x e => hb5.block x (World.ownsRow.lt h2 x e).2), fun x hx => (h3 x hx).below hb5 (Nat.le_refl _)⟩)
    have HNB : Hid (∀ k, (Value.slice oa Q.length oc).ownBlock = some k -> k ≠ wr.heap.size) := Lib.hid (fun k e => by have := (HS.out.1.lt k e).2; omega)
    have HQ4 : Hid (w4.cell? ⟨b, off + k, none⟩ = some (.slice sa sn sc)) := Lib.hid ((((HA.out.trans (hb4.mono (by simp)))).cell hbl).trans q0)
    clear hb4 HS HA q0 e0 h0; rcases hjn with ⟨hn0, hj⟩ | ⟨j, hjl, hnj, hkj, hjne, hj⟩
    focus (
     have e1 : decide ((k : Int) < (nx : Int)) = false := by rw [decide_eq_false_iff_not]; omega
     go_upto_region 13 with fail
     obtain ⟨i1, hi1⟩ : ∃ x : Nat, k = x := ⟨k, rfl⟩; have hik : k <= i1 /\ i1 < L.length := by omega
     have hMR : Hid (MrI L (i1 + 1) false (nxtO d L[k]) (Q ++ gapT2 gap (pvO Q) L[k] ++ [⟨L[k], depR d L[k]⟩]) /\ L[k].length <= 900000 /\ ∀ r ∈ Q, r.toks.length <= 900000) := Lib.hid ⟨by rw [<- hi1]; exact HM.out.1.row hkl HNE.out hj (by omega), by omega, HM.out.2⟩
     rw [hi1]; have hX5 : Hid (Cells w4 wr.heap.size #[.slice sa sn sc, .int .i64 0] 103 /\ OwnT B w4 (slT (sa, sn, sc)) L[k] /\ RunO w.heap.size B w4 (.slice oa Q.length oc) Q /\ Below w.heap.size w w4) := Lib.hid ⟨hX4.out.1, hX4.out.2.1, hX4.out.2.2.1, hX4.out.2.2.2.1⟩; clear hX4 hi1 hn0 hj e1 HM HNE HQ4; have hsn := HSN.out; clear HSN hll; subst hsn; generalize L[k] = T at *; generalize w4 = wc at *
     )
    rotate_left
    focus (
     have e1 : decide ((k : Int) < (nx : Int)) = true := by rw [decide_eq_true_iff]; omega
     obtain ⟨i0, hi1, hz0, hz1, hz2⟩ := info_parts Tryz.infoTok; obtain ⟨b2, off2, s2, e2, hbl2, hown2, q2⟩ := hX4.out.2.2.2.2.get hjl; cases e2
     obtain ⟨ta, tn, tc⟩ := s2; simp only [slT] at q2; obtain ⟨rfl, g2, rfl, hg2⟩ := own_addr hown2 hjne; have hown1 := hX4.out.2.1; obtain ⟨rfl, g1, rfl, hg1⟩ := own_addr hown1 HNE.out; have hc := hX4.out.1; have q1 := HQ4.out; have lc := hc.lt; have hjL := HL.out L[j] (List.getElem_mem hjl); have hk0 : (0 : Int) <= (k : Int) := by omega
     have hkn : (k : Int) < (L.length : Int) := by omega
     have hj0 : (0 : Int) <= (j : Int) := by omega
     have hjn2 : (j : Int) < (L.length : Int) := by omega
     have HO1 := Lib.hid hown1; have HO2 := Lib.hid hown2; have HC := Lib.hid hc; have hp1 : 0 < L[k].length := List.length_pos_iff.2 HNE.out; have hp2 : 0 < L[j].length := List.length_pos_iff.2 hjne; have HP := Lib.hid (And.intro hp1 hp2); have HBL := Lib.hid (And.intro hll hjL); clear hown1 hown2 hc hp1 hp2 hll hjL; go_upto_region 11 with fail
     go_cut [] (fun wc => ∃ g5 c5, Cells wc wr.heap.size #[.slice (some ⟨g5, 0, none⟩) (L[k] ++ L[j]).length c5, .int .i64 0] 103 /\ OwnT B wc (slT (some ⟨g5, 0, none⟩, (L[k] ++ L[j]).length, c5)) (L[k] ++ L[j]) /\ RunO w.heap.size B wc (.slice oa Q.length oc) Q /\ Below w.heap.size w wc)
     case first =>
      generalize L[k] = T1 at *; generalize L[j] = T2 at *
      go_region_law (first
       | (refine step_append_lies _ rfl _ _ 22 rfl B 63 i0 _ 3 32 Tryz.underlying22 hi1 hz0 hz1 hz2 rfl (by decide) (.slice none 0 0) 0 [] (by rfl) (World.ownsRow_nil _ _ _ _) ⟨g1, 0, none⟩ T1.length sc (T1.flatMap tokC) (by rfl) (toks_len _) (by exact toks_news (show OwnT B w4.drew _ _ from HO1.out).toks) (toks_one _) (by exact HP.out.1) (by have := HBL.out.1; unfold maxLen; omega) (by have := HBL.out.1; omega) (by show B <= w4.heap.size; omega) _ rfl ?_; intro g3 cap3 w5 hown3 hgrow3 hat3 hlt3; have G1 : w4.grownBy w5 none := ⟨hgrow3.os, hgrow3.tape, hgrow3.output, hgrow3.size, hgrow3.block⟩; have OB5 : OwnT B w5 (.slice (some ⟨g2, 0, none⟩) T2.length tc) T2 := HO2.out.moved (fun k e => G1.block k (World.ownsRow.lt HO2.out k e).2 (by simp)); have p1 := G1.cell q1 (by simp); have p2 := G1.cell q2 (by simp); have x5 := HC.out.kept G1 (by simp); have g3e : Hid (g3 = w4.heap.size) := Lib.hid (hat3.elim (fun h => by cases h) (fun h => h)); have hown3 : w5.ownsRow B 63 3 (.slice (some ⟨g3, 0, none⟩) T1.length cap3) T1.length (T1.flatMap tokC) := (by rw [Nat.zero_add, List.nil_append] at hown3; exact hown3); have HG1 := Lib.hid (And.intro hown3 (And.intro G1 (And.intro hlt3 (And.intro OB5 x5)))); clear hown3 hgrow3 hat3 hlt3 OB5 x5 G1)
       | (refine step_append_lies _ rfl _ _ 22 rfl B 63 i0 _ 3 32 Tryz.underlying22 hi1 hz0 hz1 hz2 rfl (by decide) (.slice (some ⟨g3, 0, none⟩) T1.length cap3) T1.length (T1.flatMap tokC) (by rfl) (by exact HG1.out.1) ⟨g2, 0, none⟩ T2.length tc (T2.flatMap tokC) (by rfl) (toks_len _) (by exact toks_news HG1.out.2.2.2.1.toks) (toks_one _) (by exact HP.out.2) (by have := HBL.out; unfold maxLen; omega) (by have := HBL.out; omega) (by have := HG1.out.2.1.size; omega) _ rfl ?_; intro g5 cap5 w6 hown5 hgrow5 hat5 hlt5; have G2 : w5.grownBy w6 (some g3) := hgrow5; have x6 := HG1.out.2.2.2.2.kept G2 (by rw [g3e.out]; intro e; have := Option.some.inj e; omega); have b0 := x6.cell 0 _ rfl; have b0f := x6.frozen 0; have b1 := x6.cell 1 _ rfl; have b1f := x6.frozen 1; have hlx := x6.lt; have HG2 := Lib.hid (And.intro hown5 (And.intro G2 x6)); clear hown5 hgrow5 hat5 hlt5 G2 x6))
      all_goals go_wp2_with fail
      all_goals go_meet
      all_goals
       have G1 := HG1.out.2.1; have G2 := HG2.out.2.1; have x6 := HG2.out.2.2; have s5 := G1.size; have e3 := g3e.out; refine ⟨g5, cap5, ?_, ?_, ?_, ?_⟩
       ·have h := x6.set 0 (by simp) (Value.slice (some ⟨g5, 0, none⟩) (T1.length + T2.length) cap5)
        rw [List.length_append]; exact h
       ·have h := HG2.out.1
        unfold OwnT; rw [List.flatMap_append, List.length_append]; exact own_box_set h x6 (by decide) 0 _
       ·refine hX4.out.2.2.1.moved (fun q e => ?_) (fun {u l} h => ?_)
        ·have hq := HNB.out q e
         have hql := (hX4.out.2.2.1.lt q e).2; exact ((Below.heap_setCell _ _ _ _ (by show q ≠ wr.heap.size; omega)).trans (G2.block q (by omega) (fun e => by have := Option.some.inj e; omega))).trans (G1.block q (by omega) (by simp))
        ·exact own_box_set (own_moved h (fun q e => by
          have hq := (World.ownsRow.lt h q e).2
          exact (G2.block q (by omega) (fun e => by have := Option.some.inj e; omega)).trans (G1.block q (by omega) (by simp)))) x6 (by decide) 0 _
       ·exact ((hX4.out.2.2.2.1.grown G1 hw4 (by simp)).grown G2 (by omega) (fun q e => by have := Option.some.inj e; omega)).setCell hw1 _
     obtain ⟨g5, c5, y1, y2, y3, y4⟩ := hcut; go_upto_region 13 with fail
     have hX5 := Lib.hid (And.intro y1 (And.intro y2 (And.intro y3 y4))); obtain ⟨i1, hi1⟩ : ∃ x : Nat, j = x := ⟨j, rfl⟩; have hik : k <= i1 /\ i1 < L.length := by omega
     have hMR : Hid (MrI L (i1 + 1) false (nxtO d (L[k] ++ L[j])) (Q ++ gapT2 gap (pvO Q) (L[k] ++ L[j]) ++ [⟨L[k] ++ L[j], depR d (L[k] ++ L[j])⟩]) /\ (L[k] ++ L[j]).length <= 900000 /\ ∀ r ∈ Q, r.toks.length <= 900000) := Lib.hid ⟨by rw [<- hi1]; exact HM.out.1.row hkl HNE.out hj (by omega), by rw [List.length_append]; have := HBL.out; omega, HM.out.2⟩
     clear y1 y2 y3 y4; generalize L[k] ++ L[j] = T at *; generalize (some ⟨g5, 0, none⟩ : Option Addr) = sa at hX5; generalize c5 = sc at *; rw [hi1]
     clear hi1 hj hX4 HM HNE HQ4 HSN HO1 HO2 HC HP HBL hw4 q1 q2)
    all_goals
     have hc := hX5.out.1; have lc := hc.lt; have hPl := tdPlain_any wc (.slice sa T.length sc) T 0 0 hX5.out.2.1.toks (by have := hMR.out.2.1; omega) (by omega)
     have hSg := fun W => tdSgn_any (tokO T (plF T 0 0)) sRc W; obtain ⟨cb, hcb⟩ : ∃ x, clR T = x := ⟨_, rfl⟩; have hcl := Lib.hid ((clR_tok T).trans hcb); have HCB := Lib.hid hcb; clear hcb; generalize tokO T (plF T 0 0) = t at hPl hSg hcl; obtain ⟨kd, tx, ps⟩ := t; simp only [tokV, rowW] at hPl hSg; have hcc0 := hc.cell 0 _ rfl; have hcf0 := hc.frozen 0; have hcc1 := hc.cell 1 _ rfl; have hcf1 := hc.frozen 1; clear hc; go_wp2_with fail; refine hPl.mono ?_; rintro _ w5 ⟨rfl, hb5⟩; have HX5 := Lib.hid (MX_below hX5.out hb5); clear hPl hb5 hX5 hcc0 hcc1 hcf0 hcf1; go_wp2_with fail; refine (hSg _).mono ?_; rintro _ _ ⟨rfl, rfl⟩; rw [hcl.out]; have HX6 := Lib.hid (MX_below HX5.out (tokB_below w5 ⟨kd, tx, ps⟩)); clear hSg HX5 hcl; generalize w5.alloc (tokB ⟨kd, tx, ps⟩) = wz at HX6 ⊢; have hQ0 : Q.length <= k := hql.1; have kd1 : IntKind.i64.wrap (d - 1) = d - 1 := IntWalk.i64_in _ (by omega)
     have kd2 : IntKind.i64.wrap (d + 1) = d + 1 := IntWalk.i64_in _ (by omega)
     have kd3 : IntKind.i64.wrap (d - 1 + 1) = d - 1 + 1 := IntWalk.i64_in _ (by omega)
     cases cb
     focus (
      cases gap
      focus (
       go_upto_region 16 with fail
       have HM2 : Hid (MrI L (i1 + 1) false (nxtO d T) (Q ++ [⟨T, depR d T⟩]) /\ T.length <= 900000 /\ ∀ r ∈ Q, r.toks.length <= 900000) := Lib.hid ⟨by have h := hMR.out.1; have hcc := HCB.out; simpa [gapT2] using h, hMR.out.2⟩
       clear hMR hql)
      rotate_left
      by_cases h0 : Q.length = 0
      case' pos =>
       obtain ⟨qn, hqn⟩ : ∃ x : Nat, x = Q.length := ⟨_, rfl⟩; have e0 : decide ((0 : Int) < (qn : Int)) = false := by simp; omega
       have e1 : decide (0 < qn) = false := by simp; omega
       have e2 : (0 < qn) = False := by simp; omega
       have hQn : Hid (Q = []) := Lib.hid (List.eq_nil_of_length_eq_zero h0); rw [<- hqn]; have HQ := Lib.hid hqn; clear h0 hqn; go_upto_region 16 with fail
       have hqn := HQ.out; clear HQ e0 e1 e2; subst hqn; have HM2 : Hid (MrI L (i1 + 1) false (nxtO d T) (Q ++ [⟨T, depR d T⟩]) /\ T.length <= 900000 /\ ∀ r ∈ Q, r.toks.length <= 900000) := Lib.hid ⟨by have h := hMR.out.1; have hcc := HCB.out; have hq := hQn.out; simpa [gapT2, pvO, hq] using h, hMR.out.2⟩
       clear hMR hql hQn
      case' neg =>
       obtain ⟨m, hm⟩ : ∃ m, Q.length = m + 1 := ⟨Q.length - 1, by omega⟩
       have hml : m < Q.length := by omega
       obtain ⟨b3, s3, e3, hb3, hT3, c0, c1⟩ := (HX6.out.2.2.1.tr hB).get hml; obtain ⟨a3, n3, p3⟩ := s3; simp only [slT] at c0 hT3; cases e3
       have hq1 : Q.length + 1 <= k := hql.2 rfl; have hOp := tdOpens_any wz (.slice a3 n3 p3) Q[m].toks Q[m].dep hT3.toks (by have := hMR.out.2.2 Q[m] (List.getElem_mem hml); omega)
       have HPV : Hid (pvO Q = some (opR Q[m].toks)) := Lib.hid (by
        unfold pvO; have e : Q.length - 1 = m := by omega
        rw [List.getLast?_eq_getElem?, e, List.getElem?_eq_getElem hml]; rfl)
       simp only [rowW] at hOp; generalize opR Q[m].toks = ob at hOp HPV; generalize Q[m].dep = dp3 at hOp c1; obtain ⟨qn, hqn⟩ : ∃ x : Nat, x = Q.length := ⟨_, rfl⟩; have e0 : decide ((0 : Int) < (qn : Int)) = true := by simp; omega
       have e1 : decide (0 < qn) = true := by simp; omega
       have e2 : (0 < qn) = True := by simp; omega
       have kq : IntKind.i64.wrap ((qn : Int) - 1) = (m : Int) := by rw [IntWalk.i64_in _ (by omega)]; omega
       have hm0 : (0 : Int) <= (m : Int) := by omega
       have hm1 : (m : Int) < (qn : Int) := by omega
       have hm2 : m < qn := by omega
       rw [<- hqn]; have HQ := Lib.hid hqn; have HQ1 := Lib.hid hq1; have HN1 : Hid (1 <= Q.length) := Lib.hid (by omega)
       clear h0 hqn hT3 hm hml hq1 hql; go_wp2_with fail; refine hOp.mono ?_; rintro _ w7 ⟨rfl, hb7⟩; have HX7 := Lib.hid (MX_below HX6.out hb7); clear hOp hb7 HX6 c0 c1 e0 e1 e2 kq hm0 hm1 hm2; have HX6 := HX7; clear HX7; generalize w7 = wz at *; cases ob
       focus (
        go_wp2_with (with_reducible first | refine stop_append ?_)
        refine Stop.out ?_; have hqn := HQ.out; subst hqn; obtain ⟨x1, x2, x3, x4⟩ := MX_below HX6.out ((Below.refl _ wz).alloc (Nat.le_refl _) (.cells #[.slice none 0 0, .int .i64 0] 103)); obtain ⟨D, d1, d2, d3⟩ := x3; have hDl : D.length = Q.length := by rw [<- d1, List.length_map]
        have hq1 := HQ1.out; refine wpList_append_rowW rfl _ _ rfl w.heap.size (.slice (some ⟨b3, 0, none⟩) Q.length oc) D ((none, 0, 0), ⟨[], 0⟩) rfl (by exact d2) wz.heap.size rfl (by exact Cells.new wz #[.slice none 0 0, .int .i64 0] 103) (by omega) (by exact x4.size) ?_
        intro nv w9 ho9 hg9; obtain ⟨na, nc, rfl⟩ := own_sl ho9; have xc := x1.kept hg9 (fun e => HNB.out _ e.symm rfl)
        have hNB2 : ∀ q, (Value.slice na (D.length + 1) nc).ownBlock = some q -> q ≠ wr.heap.size := by
         intro q e hqe; rw [hqe] at e; rcases ho9.2 with ⟨-, h3⟩ | ⟨g, cap, cur, he, hgb, hgc, h3, h4, h5, h6⟩
         ·omega
         ·cases he
          have e' : g = wr.heap.size := Option.some.inj e; rw [e', show w9.heap[wr.heap.size]? = _ from xc] at hgc; simp only [Option.some.injEq, Obj.cells.injEq] at hgc; have hz := congrArg Array.size hgc.1; rw [h5] at hz; simp at hz
          have hn1 := HN1.out; omega
        have hl2 : D.length + 1 = (Q ++ [(⟨[], 0⟩ : TRow)]).length := by simp [hDl]
        have xt : OwnT B w9 (slT (sa, T.length, sc)) T := own_moved x2 fun q e => hg9.block q (World.ownsRow.lt x2 q e).2 (fun q2 => own_own x2 d2 (by decide) q e q2.symm)
        have xr := RunO.push d1 d2 d3 OwnT.nil hg9 ho9; have xb := x4.grown hg9 (by exact x4.size) (fun q e => (World.ownsRow.lt d2 q e).1)
        rw [hl2] at hNB2 xr ⊢
        have HM2 : Hid (MrI L (i1 + 1) false (nxtO d T) (Q ++ [⟨[], 0⟩] ++ [⟨T, depR d T⟩]) /\ T.length <= 900000 /\ ∀ r ∈ Q ++ [(⟨[], 0⟩ : TRow)], r.toks.length <= 900000) := Lib.hid ⟨by
         have h := hMR.out.1; have hcc := HCB.out; rw [HPV.out] at h
         simpa [gapT2, hcc] using h, hMR.out.2.1, fun r hr => by
         rcases List.mem_append.1 hr with hr | hr
         ·exact hMR.out.2.2 r hr
         ·rw [List.mem_singleton.1 hr]; exact Nat.zero_le _⟩
        have hQ0 : (Q ++ [(⟨[], 0⟩ : TRow)]).length <= k := by rw [<- hl2]; omega
        have HX6 := Lib.hid (And.intro xc (And.intro xt (And.intro xr xb))); have HNB := Lib.hid hNB2; clear xc xt xr xb hNB2 hl2 d1 d2 d3 ho9 hg9 x1 x2 x4 hDl HQ HQ1 hq1 HPV hMR; generalize Q ++ [(⟨[], 0⟩ : TRow)] = Q at *; generalize w9 = wz at *; generalize na = oa at *; generalize nc = oc at *
        go_upto_region 16 with fail)
       rotate_left
       case' true =>
        go_upto_region 16 with fail
        have hqn := HQ.out; subst hqn; generalize (some ⟨b3, 0, none⟩ : Option Addr) = oa at HX6 HNB ⊢
        have HM2 : Hid (MrI L (i1 + 1) false (nxtO d T) (Q ++ [⟨T, depR d T⟩]) /\ T.length <= 900000 /\ ∀ r ∈ Q, r.toks.length <= 900000) := Lib.hid ⟨by
         have h := hMR.out.1; rw [HPV.out] at h
         simpa [gapT2] using h, hMR.out.2⟩
        clear hMR HQ HQ1 HPV
      all_goals
       have hc := HX6.out.1; have lc := hc.lt; have hcc0 := hc.cell 0 _ rfl; have hcf0 := hc.frozen 0; have hcc1 := hc.cell 1 _ rfl; have hcf1 := hc.frozen 1; have HM3 : Hid (MrI L (i1 + 1) false (if opR T then d + 1 else d) (Q ++ [⟨T, d⟩]) /\ T.length <= 900000 /\ ∀ r ∈ Q, r.toks.length <= 900000) := Lib.hid (by have h := HM2.out; unfold nxtO depR at h; rw [HCB.out] at h; exact h)
       clear hc HM2; go_upto_region 20 with fail
       have HX8 : Hid (Cells (wz.setCell ⟨wr.heap.size, 1, none⟩ (.int .i64 d)) wr.heap.size #[.slice sa T.length sc, .int .i64 d] 103 /\ OwnT B (wz.setCell ⟨wr.heap.size, 1, none⟩ (.int .i64 d)) (slT (sa, T.length, sc)) T /\ RunO w.heap.size B (wz.setCell ⟨wr.heap.size, 1, none⟩ (.int .i64 d)) (.slice oa Q.length oc) Q /\ Below w.heap.size w (wz.setCell ⟨wr.heap.size, 1, none⟩ (.int .i64 d))) :=
        Lib.hid ⟨HX6.out.1.set 1 (by simp) _, own_box_set HX6.out.2.1 HX6.out.1 (by decide) 1 _, HX6.out.2.2.1.moved (fun q e => Below.heap_setCell _ _ _ _ (by exact HNB.out q e)) (fun h => own_box_set h HX6.out.1 (by decide) 1 _), HX6.out.2.2.2.setCell (by exact hw1) _⟩
       generalize wz.setCell ⟨wr.heap.size, 1, none⟩ (.int .i64 d) = wy at HX8 ⊢; clear HX6 hcc0 hcf0 hcc1 hcf1 lc; have hc := HX8.out.1; have lc := hc.lt; have hcc0 := hc.cell 0 _ rfl; have hcf0 := hc.frozen 0; have hcc1 := hc.cell 1 _ rfl; have hcf1 := hc.frozen 1; have hOp := tdOpens_any wy (.slice sa T.length sc) T (d) HX8.out.2.1.toks (by have := HM3.out.2.1; omega)
       simp only [rowW] at hOp; obtain ⟨ob, hob⟩ : ∃ x, opR T = x := ⟨_, rfl⟩; rw [hob] at hOp; have HOB := Lib.hid hob; clear hob hc; go_wp2_with fail; refine hOp.mono ?_; rintro _ w8 ⟨rfl, hb8⟩; have HX9 := Lib.hid (MX_below HX8.out hb8); clear hOp hb8 HX8 hcc0 hcf0 hcc1 hcf1 lc; have hc := HX9.out.1; have lc := hc.lt; have hcc0 := hc.cell 0 _ rfl; have hcf0 := hc.frozen 0; have hcc1 := hc.cell 1 _ rfl; have hcf1 := hc.frozen 1; clear hc; cases ob
       all_goals
        go_wp2_with (with_reducible first | refine stop_append ?_)
        refine Stop.out ?_; obtain ⟨x1, x2, x3, x4⟩ := MX_below HX9.out ((Below.refl _ w8).alloc (Nat.le_refl _) (.cells #[.slice sa T.length sc, .int .i64 (d)] 103)); obtain ⟨D, d1, d2, d3⟩ := x3; have hDl : D.length = Q.length := by rw [<- d1, List.length_map]
        refine wpList_append_rowW rfl _ _ rfl w.heap.size (.slice oa Q.length oc) D ((sa, T.length, sc), ⟨T, d⟩) rfl (by exact d2) w8.heap.size rfl (by exact Cells.new w8 #[.slice sa T.length sc, .int .i64 (d)] 103) (by omega) (by exact x4.size) ?_
        intro nv w9 ho9 hg9; obtain ⟨na, nc, rfl⟩ := own_sl ho9; have HF := Lib.hid (And.intro (RunO.push d1 d2 d3 x2 hg9 ho9) (x4.grown hg9 (by exact x4.size) (fun q e => (World.ownsRow.lt d2 q e).1)))
        clear x1 x2 x4 d1 d2 d3 ho9 hg9 hDl hcc0 hcf0 hcc1 hcf1 lc; go_wp2_with fail; go_roundw
        case rel => exact ⟨i1 + 1, false, _, Q ++ [⟨T, d⟩], by omega, by go_num, rfl, rfl, by omega, HF.out.1, ⟨by simp; omega, fun h => by cases h⟩, Lib.hid ⟨by have h := HM3.out.1; rw [HOB.out] at h; first | exact h | (rw [if_pos rfl, Int.sub_add_cancel] at h; exact h), fun r hr => by
         rcases List.mem_append.1 hr with hr | hr
         ·exact HM3.out.2.2 r hr
         ·rw [List.mem_singleton.1 hr]; exact HM3.out.2.1⟩, HF.out.2⟩
        case measure => simp [intOf] <;> omega
      )
     focus (
      cases gap
      focus (
       go_upto_region 16 with fail
       have HM2 : Hid (MrI L (i1 + 1) false (nxtO d T) (Q ++ [⟨T, depR d T⟩]) /\ T.length <= 900000 /\ ∀ r ∈ Q, r.toks.length <= 900000) := Lib.hid ⟨by have h := hMR.out.1; have hcc := HCB.out; simpa [gapT2] using h, hMR.out.2⟩
       clear hMR hql)
      rotate_left
      by_cases h0 : Q.length = 0
      case' pos =>
       obtain ⟨qn, hqn⟩ : ∃ x : Nat, x = Q.length := ⟨_, rfl⟩; have e0 : decide ((0 : Int) < (qn : Int)) = false := by simp; omega
       have e1 : decide (0 < qn) = false := by simp; omega
       have e2 : (0 < qn) = False := by simp; omega
       rw [<- hqn]; have HQ := Lib.hid hqn; clear h0 hqn; go_upto_region 16 with fail
       have hqn := HQ.out; clear HQ e0 e1 e2; subst hqn; have HM2 : Hid (MrI L (i1 + 1) false (nxtO d T) (Q ++ [⟨T, depR d T⟩]) /\ T.length <= 900000 /\ ∀ r ∈ Q, r.toks.length <= 900000) := Lib.hid ⟨by have h := hMR.out.1; have hcc := HCB.out; simpa [gapT2, hcc] using h, hMR.out.2⟩
       clear hMR hql
      case' neg =>
       obtain ⟨qn, hqn⟩ : ∃ x : Nat, x = Q.length := ⟨_, rfl⟩; have e0 : decide ((0 : Int) < (qn : Int)) = true := by simp; omega
       have e1 : decide (0 < qn) = true := by simp; omega
       have e2 : (0 < qn) = True := by simp; omega
       rw [<- hqn]; have HQ := Lib.hid hqn; clear h0 hqn; go_upto_region 16 with fail
       have hqn := HQ.out; clear HQ e0 e1 e2; subst hqn; have HM2 : Hid (MrI L (i1 + 1) false (nxtO d T) (Q ++ [⟨T, depR d T⟩]) /\ T.length <= 900000 /\ ∀ r ∈ Q, r.toks.length <= 900000) := Lib.hid ⟨by have h := hMR.out.1; have hcc := HCB.out; simpa [gapT2, hcc] using h, hMR.out.2⟩
       clear hMR hql
      all_goals
       have hc := HX6.out.1; have lc := hc.lt; have hcc0 := hc.cell 0 _ rfl; have hcf0 := hc.frozen 0; have hcc1 := hc.cell 1 _ rfl; have hcf1 := hc.frozen 1; have HM3 : Hid (MrI L (i1 + 1) false (if opR T then (d - 1) + 1 else (d - 1)) (Q ++ [⟨T, (d - 1)⟩]) /\ T.length <= 900000 /\ ∀ r ∈ Q, r.toks.length <= 900000) := Lib.hid (by have h := HM2.out; unfold nxtO depR at h; rw [HCB.out] at h; exact h)
       clear hc HM2; go_upto_region 20 with fail
       have HX8 : Hid (Cells (wz.setCell ⟨wr.heap.size, 1, none⟩ (.int .i64 (d - 1))) wr.heap.size #[.slice sa T.length sc, .int .i64 (d - 1)] 103 /\ OwnT B (wz.setCell ⟨wr.heap.size, 1, none⟩ (.int .i64 (d - 1))) (slT (sa, T.length, sc)) T /\ RunO w.heap.size B (wz.setCell ⟨wr.heap.size, 1, none⟩ (.int .i64 (d - 1))) (.slice oa Q.length oc) Q /\ Below w.heap.size w (wz.setCell ⟨wr.heap.size, 1, none⟩ (.int .i64 (d - 1)))) :=
        Lib.hid ⟨HX6.out.1.set 1 (by simp) _, own_box_set HX6.out.2.1 HX6.out.1 (by decide) 1 _, HX6.out.2.2.1.moved (fun q e => Below.heap_setCell _ _ _ _ (by exact HNB.out q e)) (fun h => own_box_set h HX6.out.1 (by decide) 1 _), HX6.out.2.2.2.setCell (by exact hw1) _⟩
       generalize wz.setCell ⟨wr.heap.size, 1, none⟩ (.int .i64 (d - 1)) = wy at HX8 ⊢; clear HX6 hcc0 hcf0 hcc1 hcf1 lc; have hc := HX8.out.1; have lc := hc.lt; have hcc0 := hc.cell 0 _ rfl; have hcf0 := hc.frozen 0; have hcc1 := hc.cell 1 _ rfl; have hcf1 := hc.frozen 1; have hOp := tdOpens_any wy (.slice sa T.length sc) T ((d - 1)) HX8.out.2.1.toks (by have := HM3.out.2.1; omega)
       simp only [rowW] at hOp; obtain ⟨ob, hob⟩ : ∃ x, opR T = x := ⟨_, rfl⟩; rw [hob] at hOp; have HOB := Lib.hid hob; clear hob hc; go_wp2_with fail; refine hOp.mono ?_; rintro _ w8 ⟨rfl, hb8⟩; have HX9 := Lib.hid (MX_below HX8.out hb8); clear hOp hb8 HX8 hcc0 hcf0 hcc1 hcf1 lc; have hc := HX9.out.1; have lc := hc.lt; have hcc0 := hc.cell 0 _ rfl; have hcf0 := hc.frozen 0; have hcc1 := hc.cell 1 _ rfl; have hcf1 := hc.frozen 1; clear hc; cases ob
       all_goals
        go_wp2_with (with_reducible first | refine stop_append ?_)
        refine Stop.out ?_; obtain ⟨x1, x2, x3, x4⟩ := MX_below HX9.out ((Below.refl _ w8).alloc (Nat.le_refl _) (.cells #[.slice sa T.length sc, .int .i64 ((d - 1))] 103)); obtain ⟨D, d1, d2, d3⟩ := x3; have hDl : D.length = Q.length := by rw [<- d1, List.length_map]
        refine wpList_append_rowW rfl _ _ rfl w.heap.size (.slice oa Q.length oc) D ((sa, T.length, sc), ⟨T, (d - 1)⟩) rfl (by exact d2) w8.heap.size rfl (by exact Cells.new w8 #[.slice sa T.length sc, .int .i64 ((d - 1))] 103) (by omega) (by exact x4.size) ?_
        intro nv w9 ho9 hg9; obtain ⟨na, nc, rfl⟩ := own_sl ho9; have HF := Lib.hid (And.intro (RunO.push d1 d2 d3 x2 hg9 ho9) (x4.grown hg9 (by exact x4.size) (fun q e => (World.ownsRow.lt d2 q e).1)))
        clear x1 x2 x4 d1 d2 d3 ho9 hg9 hDl hcc0 hcf0 hcc1 hcf1 lc; go_wp2_with fail; go_roundw
        case rel => exact ⟨i1 + 1, false, _, Q ++ [⟨T, (d - 1)⟩], by omega, by go_num, rfl, rfl, by omega, HF.out.1, ⟨by simp; omega, fun h => by cases h⟩, Lib.hid ⟨by have h := HM3.out.1; rw [HOB.out] at h; first | exact h | (rw [if_pos rfl, Int.sub_add_cancel] at h; exact h), fun r hr => by
         rcases List.mem_append.1 hr with hr | hr
         ·exact HM3.out.2.2 r hr
         ·rw [List.mem_singleton.1 hr]; exact HM3.out.2.1⟩, HF.out.2⟩
        case measure => simp [intOf] <;> omega
      )
  ·obtain rfl : k = L.length := by omega
   have hE := HM.out.1.end; obtain ⟨oa, oc, rfl⟩ := hQ.shape; have HS := Lib.hid (And.intro hQ hb); clear hQ hb hkl; go_wp2_with fail; go_ret; rw [hE]; exact ⟨_, rfl, HS.out⟩
theorem RunO.low {B1 B B0 : Nat} {w : World} {v : Value} {R : List TRow} (h : RunO B1 B w v R) (h1 : B0 <= B1) (h2 : B0 <= B) : TrO B0 w v R := by
 obtain ⟨D, q1, q2, q3⟩ := h; exact ⟨D, q1, own_base q2 h1, fun d hd => own_base (q3 d hd) h2⟩
theorem tdTidy_any (s : ByteArray) (w : World) (hT : LexT w) (hTb : TabB w.heap.size w) (hs : s.size <= 400000) (hn : (rowsP s.data.toList).length <= 1000000) (hl : ∀ r ∈ rowsP s.data.toList, r.toks.length <= 400000)
  (hF : (linesP s.data.toList).2.2 = 0 -> (∀ r ∈ tidyR ((rowsP s.data.toList).map (·.toks)), FitW r) /\ (tidyB ((rowsP s.data.toList).map (·.toks))).length <= 400000000 /\ (tidyR ((rowsP s.data.toList).map (·.toks))).length <= 1000000) :
  Calls Tryz.prog 13 #[.string s] w fun e w' => e = .returned (.tuple #[.string ⟨(tidyP s.data.toList).1.toArray⟩, .int .i64 (tidyP s.data.toList).2.1, .int .i64 (tidyP s.data.toList).2.2]) /\ Below w.heap.size w w' := by
 have hP := bodyParse_any s w hT (by omega)
 obtain ⟨X, hX⟩ : ∃ x, x = linesP s.data.toList := ⟨_, rfl⟩; have HTP : tidyP s.data.toList = if X.2.2 = 0 then (tidyB ((rowsP s.data.toList).map (·.toks)), -1, 0) else ([], X.2) := by rw [hX]; rfl
 rw [HTP]; rw [<- hX] at hF hP; clear HTP hX; obtain ⟨X1, at_, er⟩ := X; go_enter Tryz.func13, Tryz.ntmps13; go_wp2_with fail; refine hP.mono ?_; rintro _ w1 ⟨⟨v1, rfl, -⟩, hb1⟩
 by_cases h0 : er = 0
 ·subst h0
  simp only at hF; obtain ⟨hF1, hF2⟩ := hF (by trivial)
  have HF := Lib.hid (And.intro hF1 hF2); clear hF hF1 hF2; go_wp2_with fail; have hs2 : w.heap.size <= w1.heap.size := hb1.size; have hb2 : Below w.heap.size w (w1.alloc (.cells #[.pointer none, .slice none 0 0] 69)) := hb1.alloc hs2 _; have hR := lkRows_any s _ (hT.below hb2) (by omega) hn
  have HW := Lib.hid (BW.start w1 w1.heap.size (Nat.le_refl _)); have HB2 := Lib.hid hb2; clear hb1 hb2; generalize hw2 : w1.alloc (.cells #[.pointer none, .slice none 0 0] 69) = w2 at *; have hz2 : w2.heap.size = w1.heap.size + 1 := by rw [<- hw2]; simp
  clear hw2; refine hR.mono ?_; rintro _ w3 ⟨v3, rfl, hK, hb3⟩; have hM := merge_any w3 v3 _ hK hb3.size (by simpa using hn) (by simpa using hl)
  clear hR; go_wp2_with fail; refine hM.mono ?_; rintro _ w4 ⟨v4, rfl, hO, hb4⟩; have hs3 := hb3.size; have hW4 := (HW.out.below hb3).below hb4; have hBB : Below w.heap.size w w4 := (HB2.out.trans (hb3.mono (by omega))).trans (hb4.mono (by omega))
  have hWr := write_any _ v4 hW4 (hO.low (by omega) (by omega)) HF.out.1 HF.out.2.2 (by have := HF.out.2.1; simpa [tidyB] using this) (fun W q => hTb W (hBB.trans (q.mono hs2)))
  have HS := Lib.hid (And.intro hBB hs2); clear hM hO hK hW4 hBB; go_wp2_with fail; refine hWr.mono ?_; rintro _ w5 ⟨rfl, hW5, hb5⟩; have hSt := String_any w5 (by exact hW5.2.choose_spec.2) (by have := hb3.size; have := hb4.size; have := hb5.size; omega) (by have := HF.out.2.1; simpa [tidyB] using Nat.le_trans this (by decide))
  have HZ := Lib.hid (And.intro hb3 (And.intro hb4 hb5)); clear hWr hW5 hb3 hb4 hb5; go_wp2_with fail; refine hSt.mono ?_; rintro _ w6 ⟨rfl, hb6, -⟩; go_wp2_with fail; refine bodyPost_ret (v := .tuple #[.string ⟨([] ++ runsF (tidyR ((rowsP s.data.toList).map RowD.toks)) []).toArray⟩, .int .i64 (-1), .int .i64 0]) (by simp [results, Tryz.results13, go_sem]) rfl ?_
  refine ⟨by trivial, HS.out.1.trans ((HZ.out.2.2.trans hb6).mono HS.out.2)⟩
 ·have h1 : (er != 0) = true := by simpa using h0
  have HB := Lib.hid hb1; clear hb1 hF; go_wp2_with fail; refine bodyPost_ret (v := .tuple #[.string ⟨#[]⟩, .int .i64 at_, .int .i64 er]) (by simp [results, Tryz.results13, go_sem]) rfl ?_
  simp only [if_neg h0]; exact ⟨by trivial, HB.out⟩
end Go.Proofs.YtbcdaaobbebooaaGreatDoor
