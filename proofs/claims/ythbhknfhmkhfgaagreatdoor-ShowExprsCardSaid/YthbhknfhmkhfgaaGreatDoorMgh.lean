/- Texts of this claim, one behind the other: ExC, RiC, QuoQ, QuX, ShP, QuoH, QuoI, QuoJ. -/
import Derived.Test.YthbhknfhmkhfgaaGreatDoorMga
import Derived.Test.YthbhknfhmkhfgaaGreatDoorMgb
import Derived.Test.YthbhknfhmkhfgaaGreatDoorMgc
import Derived.Test.YthbhknfhmkhfgaaGreatDoorMgf
import Derived.Test.YthbhknfhmkhfgaaGreatDoorMgg
import Derived.IntWalk
set_option linter.unusedSimpArgs false
set_option linter.unusedVariables false
namespace Go.Proofs.YthbhknfhmkhfgaaGreatDoor
set_option maxRecDepth 100000
set_option maxHeartbeats 20000000
open Go.RowKit Go.Tab
mutual
def wtX : Exp -> Nat
 | .mk _ t kids => 1 + t.size / 20 + wtXs kids
def wtXs : List Exp -> Nat
 | [] => 0
 | t :: r => wtX t + wtXs r
end
mutual
def ShortX : Exp -> Prop
 | .mk o t kids => o.size <= 20 /\ t.size <= 500 /\ ShortXs kids
def ShortXs : List Exp -> Prop
 | [] => True
 | t :: r => ShortX t /\ ShortXs r
end
theorem wtXs_snoc : ∀ (l : List Exp) (t : Exp), wtXs (l ++ [t]) = wtXs l + wtX t
 | [], t => by simp [wtXs]
 | a :: r, t => by simp only [List.cons_append, wtXs, wtXs_snoc r t]; omega
theorem wtXs_take {l : List Exp} {k : Nat} (h : k < l.length) : wtXs (l.take (k + 1)) = wtXs (l.take k) + wtX l[k] := by
 rw [take_snoc' l k h, wtXs_snoc]
theorem ShortXs_snoc : ∀ (l : List Exp) (t : Exp), ShortXs l -> ShortX t -> ShortXs (l ++ [t])
 | [], t, _, h => by simp only [List.nil_append, ShortXs]; exact ⟨h, trivial⟩
 | a :: r, t, h1, h2 => by simp only [List.cons_append, ShortXs] at h1 ⊢; exact ⟨h1.1, ShortXs_snoc r t h1.2 h2⟩
theorem ShortXs_take {l : List Exp} {k : Nat} (h : k < l.length) (h1 : ShortXs (l.take k)) (h2 : ShortX l[k]) : ShortXs (l.take (k + 1)) := by
 rw [take_snoc' l k h]; exact ShortXs_snoc _ _ h1 h2
theorem ShortXs.kid : ∀ {l : List Exp} {k : Nat} (h : k < l.length), ShortXs l -> ShortX l[k]
 | t :: r, 0, _, h => by simp only [ShortXs] at h; exact h.1
 | t :: r, k + 1, hk, h => by
  simp only [ShortXs] at h; exact ShortXs.kid (l := r) (k := k) (by simpa using hk) h.2
def RoomX (left : Int) (t : Exp) (w : World) (e : Ending) (w' : World) : Prop := (∃ m : Int, e = .returned (.int .i64 m) /\ -1125899906842624 <= m /\ m <= 400 /\ (0 <= m -> (wtX t : Int) <= left - m /\ ShortX t)) /\ Below w.heap.size w w'
theorem roomX_step (n : Nat) (IH : ∀ (t : Exp), t.bulk <= n -> FitX t -> ∀ (dp left : Int) (w : World) (cs : List Value), ExpAt w t cs -> 0 <= dp /\ dp <= 201 -> 0 <= left /\ left <= 400 ->
      Calls Tryz.prog 21 #[.agg cs.toArray, .int .i64 dp, .int .i64 left] w (RoomX left t w))
    (op text : ByteArray) (kids : List Exp)
    (h : (Exp.mk op text kids).bulk <= n + 1) (hf : FitX (Exp.mk op text kids))
    (dp left : Int) (w : World) (cs : List Value) (hv : ExpAt w (.mk op text kids) cs) (hdp : 0 <= dp /\ dp <= 201) (hleft : 0 <= left /\ left <= 400) :
    Calls Tryz.prog 21 #[.agg cs.toArray, .int .i64 dp, .int .i64 left] w (RoomX left (.mk op text kids) w) := by
  have hkb : bulkX kids <= n := by simp only [Exp.bulk] at h; omega
  simp only [FitX] at hf; obtain ⟨hf1, hf2, hf3, hf5⟩ := hf; obtain ⟨W, hW⟩ : ∃ W, W = wtX (.mk op text kids) := ⟨_, rfl⟩; have hW2 : W = 1 + text.size / 20 + wtXs kids := hW; obtain ⟨SS, hSS⟩ : ∃ SS, SS = ShortX (.mk op text kids) := ⟨_, rfl⟩; have hS2 : SS = (op.size <= 20 /\ text.size <= 500 /\ ShortXs kids) := by rw [hSS]; simp only [ShortX]
  unfold RoomX; rw [<- hW, <- hSS]; have HW := Lib.hid hW2; have HS := Lib.hid hS2; clear hW hW2 hSS hS2; simp only [ExpAt] at hv; obtain ⟨a, cap, rfl, hl, hm, hnil, hx⟩ := hv; have hll := len_bulkX kids; unfold maxLen at hm; clear h; have hx0 := Cells.new w #[.string op, .string text, .slice a kids.length cap] 24; have hb0 : Below w.heap.size w (w.alloc (.cells #[.string op, .string text, .slice a kids.length cap] 24)) := (Below.refl _ w).alloc (Nat.le_refl _) _
  by_cases hbad : 200 < dp \/ (dp <= 200 /\ 500 < text.size) \/ (dp <= 200 /\ text.size <= 500 /\ 20 < op.size)
  . rcases hbad with hbad | hbad | hbad
    all_goals
      go_enter Tryz.func21, Tryz.ntmps21; go_wp2; go_ret; exact ⟨⟨_, rfl, by omega, by omega, fun h => by omega⟩, hb0⟩
  . have hok : dp <= 200 /\ text.size <= 500 /\ op.size <= 20 := by omega
    clear hbad; have HOK := Lib.hid hok; go_enter Tryz.func21, Tryz.ntmps21; go_wp2_with fail; go_loopw [2, 7] (fun lv i wr => ∃ (k : Nat) (m : Int), k <= kids.length /\ i = .int .i64 (k : Int) /\ lv = .int .i64 m /\ -1125899906842624 <= m /\ m <= 400 /\ (0 <= m -> m + 1 + (text.size / 20 : Nat) + wtXs (kids.take k) <= left /\ ShortXs (kids.take k)) /\ Below w.heap.size w wr /\ Cells wr w.heap.size #[.string op, .string text, .slice a kids.length cap] 24) (fun _ i _ => kids.length - (intOf i).toNat)
    case atStart => exact ⟨0, _, Nat.zero_le _, rfl, rfl, by omega, by omega, (fun _ => by
      simp only [List.take_zero, wtXs, ShortXs]
      exact ⟨by omega, trivial⟩), hb0, hx0⟩
    case round =>
      clear hb0 hx0; obtain ⟨k, m, hkk, rfl, rfl, hm1, hm2, hm3, hb, hX⟩ := hrel; have HM3 := Lib.hid hm3; clear hm3; have hXl := hX.lt; have hXc0 := hX.cell 0 _ rfl; have hXf0 := hX.frozen 0; have hXc1 := hX.cell 1 _ rfl; have hXf1 := hX.frozen 1; have hXc2 := hX.cell 2 _ rfl; have hXf2 := hX.frozen 2
      by_cases hgo : k < kids.length /\ 0 <= m
      . obtain ⟨hkl, hm0⟩ := hgo
        have hne : kids ≠ [] := by intro h0; rw [h0] at hkl; simp at hkl
        cases a with
        | none => have := hnil rfl; omega
        | some x =>
          obtain ⟨bb, off, sp⟩ := x; obtain ⟨rfl, hlt, hkids⟩ := hx _ rfl hne; simp only at hlt hkids; obtain ⟨kc0, hkc, hkv⟩ := ExpsAt.get (ExpsAt.below hb hlt kids _ hkids) k hkl; obtain ⟨kop, ktext, ksa, ksn, ksc, rfl, m0, m1, m2⟩ := exp_at hkv hkc; have hkbk := bulkX_kid hkl; have hIH := IH kids[k] (by omega) (FitX.kid hkl hf5) (dp + 1) m wr _ hkv (by omega) (by omega)
          have HKT := Lib.hid (wtXs_take hkl); have HST := Lib.hid (ShortXs_take hkl); generalize kids[k] = kid at *; go_wp2_with fail; refine hIH.mono ?_; clear hIH hkv hkc; rintro e w2 ⟨⟨m', rfl, g1, g2, g3⟩, hb2⟩; have HG3 := Lib.hid g3; clear g3; have hb3 := hb.trans (hb2.mono hb.size); have hX2 := hX.below hb2 hXl; clear hXc0 hXc1 hXc2 hXf0 hXf1 hXf2; go_wp2; go_roundw
          case rel => exact ⟨k + 1, m', hkl, by go_num, rfl, g1, g2, (fun h => by have h1 := HM3.out (by omega); have h2 := HG3.out h; have := HKT.out; exact ⟨by omega, HST.out h1.2 h2.2⟩), hb3, hX2⟩
          case measure => simp [intOf]; omega
      . have hend : k = kids.length \/ (k < kids.length /\ m < 0) := by omega
        clear hgo; rcases hend with rfl | ⟨hkl, hm0⟩
        . go_wp2
          go_ret
          exact ⟨⟨_, rfl, by omega, by omega, fun h => by
            have h1 := HM3.out h; rw [List.take_length] at h1; have := HW.out; refine ⟨by omega, ?_⟩
            rw [HS.out]
            exact ⟨HOK.out.2.2, HOK.out.2.1, h1.2⟩⟩, hb⟩
        . go_wp2
          go_ret; exact ⟨⟨_, rfl, by omega, by omega, fun h => by omega⟩, hb⟩
theorem roomX_any (n : Nat) : ∀ (t : Exp), t.bulk <= n -> FitX t -> ∀ (dp left : Int) (w : World) (cs : List Value), ExpAt w t cs -> 0 <= dp /\ dp <= 201 -> 0 <= left /\ left <= 400 ->
  Calls Tryz.prog 21 #[.agg cs.toArray, .int .i64 dp, .int .i64 left] w (RoomX left t w) := by
 induction n with
 | zero => intro t h; have := bulkX_pos t; omega
 | succ n IH =>
  intro t h hmax dp left w cs hv hdp hleft
  cases t with
  | mk op text kids => exact roomX_step n IH op text kids h hmax dp left w cs hv hdp hleft
theorem GreatX_any (t : Exp) (hf : FitX t) (w : World) (cs : List Value) (hv : ExpAt w t cs) :
  Calls Tryz.prog 8 #[.agg cs.toArray] w fun e w' => (∃ b, e = .returned (.bool b) /\ (b = false -> wtX t <= 300 /\ ShortX t)) /\ Below w.heap.size w w' := by
 have hR := fun w cs hv => roomX_any t.bulk t (Nat.le_refl _) hf 0 300 w cs hv (by omega) (by omega)
 obtain ⟨op, text, sa, sn, sc, rfl⟩ := hv.shape; have hv1 := hv.below_alloc (.cells #[.string op, .string text, .slice sa sn sc] 24); have hR1 := hR _ _ hv1; clear hv hv1 hR hf; go_enter Tryz.func8, Tryz.ntmps8; go_wp2_with fail; refine hR1.mono ?_; rintro e w2 ⟨⟨m', rfl, g1, g2, g3⟩, hb2⟩; have HG3 := Lib.hid g3; clear g3 hR1; go_wp2; go_ret; exact ⟨⟨_, rfl, fun h => by have h2 := of_decide_eq_false h; have h3 := HG3.out (by omega); exact ⟨by omega, h3.2⟩⟩, ((Below.refl _ w).alloc (Nat.le_refl _) _).trans (hb2.mono (by simp))⟩
def okX (o t : ByteArray) (n : Nat) : Bool := match kOf o with
 | none => false
 | some x => (decide (x.1 = -1) || decide (x.1 = (n : Int))) && txtB x.2 t
mutual
def rightX : Exp -> Bool
 | .mk o t kids => okX o t kids.length && rightXs kids
def rightXs : List Exp -> Bool
 | [] => true
 | t :: r => rightX t && rightXs r
end
theorem rightXs_take : ∀ (l : List Exp) (k : Nat) (h : k < l.length), rightXs (l.take (k + 1)) = (rightXs (l.take k) && rightX l[k])
 | t :: r, 0, _ => by simp [rightXs]
 | t :: r, k + 1, hk => by
  have := rightXs_take r k (by simpa using hk)
  simp only [List.take_succ_cons, rightXs, List.getElem_cons_succ, this, Bool.and_assoc]
theorem rightXs_bad : ∀ {l : List Exp} {k : Nat} (h : k < l.length), rightX l[k] = false -> rightXs l = false
 | t :: r, 0, _, h => by simp only [List.getElem_cons_zero] at h; simp only [rightXs, h, Bool.false_and]
 | t :: r, k + 1, hk, h => by
  have := rightXs_bad (l := r) (k := k) (by simpa using hk) (by simpa using h)
  simp only [rightXs, this, Bool.and_false]
theorem ShortX.kid : ∀ {l : List Exp} {k : Nat} (h : k < l.length), ShortXs l -> ShortX l[k]
 | t :: r, 0, _, h => by simp only [ShortXs] at h; exact h.1
 | t :: r, k + 1, hk, h => by
  simp only [ShortXs] at h; exact ShortX.kid (l := r) (k := k) (by simpa using hk) h.2
theorem RightX_step (hA : AloneC) (n : Nat) (IH : ∀ (t : Exp), t.bulk <= n -> ShortX t -> ∀ (w : World) (cs : List Value), LexT w -> ExpAt w t cs -> Calls Tryz.prog 22 #[vX cs] w fun e w' => e = .returned (.bool (rightX t)) /\ Below w.heap.size w w')
  (op text : ByteArray) (kids : List Exp) (h : (Exp.mk op text kids).bulk <= n + 1) (hs : ShortX (.mk op text kids)) (w : World) (cs : List Value) (hT : LexT w) (hv : ExpAt w (.mk op text kids) cs) :
  Calls Tryz.prog 22 #[vX cs] w fun e w' => e = .returned (.bool (rightX (.mk op text kids))) /\ Below w.heap.size w w' := by
 have hkb : bulkX kids <= n := by simp only [Exp.bulk] at h; omega
 simp only [ShortX] at hs; obtain ⟨a, cap, rfl, hl, hm, hnil, hx⟩ := hv.open; unfold maxLen at hm; simp only [vX]; clear h hv; have hb1 : Below w.heap.size w (w.alloc (.cells #[.string op, .string text, .slice a kids.length cap] 24)) := (Below.refl _ w).alloc (Nat.le_refl _) _; have hc := Cells.new w #[.string op, .string text, .slice a kids.length cap] 24; have hK := fun W => kids_any op W; have hWd := worded_any hA op text a kids.length cap _ (hT.below hb1) (by omega)
 have hR : rightX (.mk op text kids) = (okX op text kids.length && rightXs kids) := by simp only [rightX]
 rw [hR]; unfold okX; unfold AloneC at hA; have HX := Lib.hid hx; have HIH := Lib.hid IH; have HS := Lib.hid hs; have HB := Lib.hid hb1; have HT := Lib.hid hT; have HC := Lib.hid hc; clear hA hR hx IH hs hb1 hT hc; generalize kOf op = q at *
 cases q with
 | none =>
  have hne : ((-2 : Int) != (kids.length : Int)) = true := by rw [bne_iff_ne]; omega
  go_enter Tryz.func22, Tryz.ntmps22; go_wp2_with fail; refine (hK _).mono ?_; rintro _ _ ⟨rfl, rfl⟩; go_wp2; go_ret; exact ⟨rfl, HB.out⟩
 | some x =>
  obtain ⟨kn, kc⟩ := x; simp only at hK hWd ⊢
  by_cases hcount : kn = -1 \/ kn = (kids.length : Int)
  ·have hct : (decide (kn = -1) || decide (kn = (kids.length : Int))) = true := by simpa using hcount
   rw [hct, Bool.true_and]
   have hdec : ((kn != (kids.length : Int)) && (kn != -1)) = false := by
    rcases hcount with h | h <;> simp [h]
   generalize txtB kc text = tb at *; go_enter Tryz.func22, Tryz.ntmps22; go_wp2_with fail; refine (hK _).mono ?_; rintro _ _ ⟨rfl, rfl⟩; rcases hcount with h1 | h1
   ·subst h1
    have h2 : ((-1 : Int) != -1) = false := by decide
    have h3 : ((-1 : Int) != (kids.length : Int)) = true := by rw [bne_iff_ne]; omega
    clear hct hdec; go_wp2_with fail; refine hWd.mono ?_; rintro _ w2 ⟨rfl, hb2⟩; have hc2 := HC.out.below hb2 HC.out.lt; have HB2 := Lib.hid (HB.out.trans (hb2.mono HB.out.size)); have hy2 := hc2.lt; have HC2 := Lib.hid hc2; clear hb2 hWd hK; have hc2c0 := hc2.cell 0 _ rfl; have hc2f0 := hc2.frozen 0; have hc2c1 := hc2.cell 1 _ rfl; have hc2f1 := hc2.frozen 1; have hc2c2 := hc2.cell 2 _ rfl; have hc2f2 := hc2.frozen 2; clear hc2
    cases tb with
    | false =>
     go_wp2; go_ret; exact ⟨rfl, HB2.out⟩
    | true =>
     go_wp2_with fail; go_loopw [24] (fun i wr => ∃ k : Nat, k <= kids.length /\ i = .int .i64 (k : Int) /\ rightXs (kids.take k) = true /\ Below w2.heap.size w2 wr) (fun i _ => kids.length - (intOf i).toNat)
     case atStart => exact ⟨0, Nat.zero_le _, rfl, by simp [rightXs], Below.refl _ _⟩
     case round =>
      clear hc2c0 hc2c1 hc2c2 hc2f0 hc2f1 hc2f2; obtain ⟨k, hk, rfl, hall, hbl⟩ := hrel; have HA := Lib.hid hall; have HBL := Lib.hid hbl; clear hall
      by_cases hkl : k < kids.length
      ·have hne : kids ≠ [] := by intro h0; rw [h0] at hkl; simp at hkl
       cases a with
       | none => have := hnil rfl; omega
       | some x =>
       obtain ⟨bb, off, sp⟩ := x; obtain ⟨rfl, hlt, hkids⟩ := KidsE.below (KidsE.below HX.out HB2.out) hbl _ rfl hne; simp only at hlt hkids; obtain ⟨kc0, hkc, hkv⟩ := ExpsAt.get hkids k hkl; obtain ⟨kop, ktext, ksa, ksn, ksc, rfl, m0, m1, m2⟩ := exp_at hkv hkc; have hIH := HIH.out kids[k] (by have := bulkX_kid hkl; omega) (ShortX.kid hkl HS.out.2.2)
       have HTk := Lib.hid (rightXs_take kids k hkl); have HBk := Lib.hid (fun h => rightXs_bad hkl h); have hT3 := HT.out.below (HB2.out.trans (hbl.mono HB2.out.size)); have hbA : Below wr.heap.size wr (wr.alloc (.cells #[.string kop, .string ktext, .slice ksa ksn ksc] 24)) := (Below.refl _ _).alloc (Nat.le_refl _) _; have hC := hIH _ _ (hT3.below hbA) (ExpAt.below hbA _ _ hkv); have HBA := Lib.hid (hbl.trans (hbA.mono hbl.size)); clear hIH hkv hkc hkids hT3 hbA hbl; simp only [vX] at hC; generalize rightX kids[k] = rb at *; go_wp2_with fail; refine hC.mono ?_; rintro _ w4 ⟨rfl, hb4⟩; have HB4 := Lib.hid (HBA.out.trans (hb4.mono HBA.out.size)); clear hC hb4
       cases rb with
       | false =>
        go_wp2; go_ret; exact ⟨by simp [HBk.out trivial], HB2.out.trans (HB4.out.mono HB2.out.size)⟩
       | true =>
        go_wp2_with fail; go_roundw
        case rel => exact ⟨k + 1, hkl, by go_num, by rw [HTk.out, HA.out]; rfl, HB4.out⟩
        case measure => simp [intOf]; omega
      ·obtain rfl : k = kids.length := by omega
       clear hbl; go_wp2; go_ret; have h5 := HA.out; rw [List.take_length] at h5; exact ⟨by simp [h5], HB2.out.trans (HBL.out.mono HB2.out.size)⟩
   ·have h3 : (kn != (kids.length : Int)) = false := by rw [h1]; simp
    have H1 := Lib.hid h1; clear h1; clear hct hdec; go_wp2_with fail; refine hWd.mono ?_; rintro _ w2 ⟨rfl, hb2⟩; have hc2 := HC.out.below hb2 HC.out.lt; have HB2 := Lib.hid (HB.out.trans (hb2.mono HB.out.size)); have hy2 := hc2.lt; have HC2 := Lib.hid hc2; clear hb2 hWd hK; have hc2c0 := hc2.cell 0 _ rfl; have hc2f0 := hc2.frozen 0; have hc2c1 := hc2.cell 1 _ rfl; have hc2f1 := hc2.frozen 1; have hc2c2 := hc2.cell 2 _ rfl; have hc2f2 := hc2.frozen 2; clear hc2
    cases tb with
    | false =>
     go_wp2; go_ret; exact ⟨rfl, HB2.out⟩
    | true =>
     go_wp2_with fail; go_loopw [24] (fun i wr => ∃ k : Nat, k <= kids.length /\ i = .int .i64 (k : Int) /\ rightXs (kids.take k) = true /\ Below w2.heap.size w2 wr) (fun i _ => kids.length - (intOf i).toNat)
     case atStart => exact ⟨0, Nat.zero_le _, rfl, by simp [rightXs], Below.refl _ _⟩
     case round =>
      clear hc2c0 hc2c1 hc2c2 hc2f0 hc2f1 hc2f2; obtain ⟨k, hk, rfl, hall, hbl⟩ := hrel; have HA := Lib.hid hall; have HBL := Lib.hid hbl; clear hall
      by_cases hkl : k < kids.length
      ·have hne : kids ≠ [] := by intro h0; rw [h0] at hkl; simp at hkl
       cases a with
       | none => have := hnil rfl; omega
       | some x =>
       obtain ⟨bb, off, sp⟩ := x; obtain ⟨rfl, hlt, hkids⟩ := KidsE.below (KidsE.below HX.out HB2.out) hbl _ rfl hne; simp only at hlt hkids; obtain ⟨kc0, hkc, hkv⟩ := ExpsAt.get hkids k hkl; obtain ⟨kop, ktext, ksa, ksn, ksc, rfl, m0, m1, m2⟩ := exp_at hkv hkc; have hIH := HIH.out kids[k] (by have := bulkX_kid hkl; omega) (ShortX.kid hkl HS.out.2.2)
       have HTk := Lib.hid (rightXs_take kids k hkl); have HBk := Lib.hid (fun h => rightXs_bad hkl h); have hT3 := HT.out.below (HB2.out.trans (hbl.mono HB2.out.size)); have hbA : Below wr.heap.size wr (wr.alloc (.cells #[.string kop, .string ktext, .slice ksa ksn ksc] 24)) := (Below.refl _ _).alloc (Nat.le_refl _) _; have hC := hIH _ _ (hT3.below hbA) (ExpAt.below hbA _ _ hkv); have HBA := Lib.hid (hbl.trans (hbA.mono hbl.size)); clear hIH hkv hkc hkids hT3 hbA hbl; simp only [vX] at hC; generalize rightX kids[k] = rb at *; go_wp2_with fail; refine hC.mono ?_; rintro _ w4 ⟨rfl, hb4⟩; have HB4 := Lib.hid (HBA.out.trans (hb4.mono HBA.out.size)); clear hC hb4
       cases rb with
       | false =>
        go_wp2; go_ret; exact ⟨by simp [HBk.out trivial], HB2.out.trans (HB4.out.mono HB2.out.size)⟩
       | true =>
        go_wp2_with fail; go_roundw
        case rel => exact ⟨k + 1, hkl, by go_num, by rw [HTk.out, HA.out]; rfl, HB4.out⟩
        case measure => simp [intOf]; omega
      ·obtain rfl : k = kids.length := by omega
       clear hbl; go_wp2; go_ret; have h5 := HA.out; rw [List.take_length] at h5; exact ⟨by simp [h5], HB2.out.trans (HBL.out.mono HB2.out.size)⟩
  ·have hct : (decide (kn = -1) || decide (kn = (kids.length : Int))) = false := by simpa using hcount
   rw [hct, Bool.false_and, Bool.false_and]; have h1 : (kn != (kids.length : Int)) = true := by rw [bne_iff_ne]; intro h; exact hcount (.inr h)
   have h2 : (kn != -1) = true := by rw [bne_iff_ne]; intro h; exact hcount (.inl h)
   go_enter Tryz.func22, Tryz.ntmps22; go_wp2_with fail; refine (hK _).mono ?_; rintro _ _ ⟨rfl, rfl⟩; clear hcount hct; go_wp2; go_ret; exact ⟨rfl, HB.out⟩
theorem RightX_upto (hA : AloneC) (n : Nat) : ∀ (t : Exp), t.bulk <= n -> ShortX t -> ∀ (w : World) (cs : List Value), LexT w -> ExpAt w t cs -> Calls Tryz.prog 22 #[vX cs] w fun e w' => e = .returned (.bool (rightX t)) /\ Below w.heap.size w w' := by
 induction n with
 | zero => intro t h; have := bulkX_pos t; omega
 | succ n IH =>
  intro t h hs w cs hT hv; cases t
  exact RightX_step hA n IH _ _ _ h hs w cs hT hv
end Go.Proofs.YthbhknfhmkhfgaaGreatDoor
namespace Go.Proofs.YthbhknfhmkhfgaaGreatDoor
set_option maxRecDepth 100000
set_option maxHeartbeats 20000000
def Txt (l : List Nat) : Prop := Byt l /\ (scan l 0).2 = none
theorem Txt.step {l : List Nat} (h : Txt l) (hl : l ≠ []) : ∃ c r, isSc c = true /\ l = putN c ++ r /\ Txt r := by
 obtain ⟨hb, hs⟩ := h; rw [scan_step hl] at hs
 by_cases hn : (oneN l).2 = 0
 ·rw [if_pos hn] at hs; cases hs
 ·rw [if_neg hn] at hs
  obtain ⟨q1, q2, q3, q4⟩ := put_oneN (c := (oneN l).1) (n := (oneN l).2) hb rfl hn; refine ⟨(oneN l).1, l.drop (oneN l).2, q1, by rw [q3, List.take_append_drop], hb.drop _, ?_⟩
  have := scan_shift (l.drop (oneN l).2).length (l.drop (oneN l).2) 0 (0 + (oneN l).2) (Nat.le_refl _); rw [show 0 + (0 + (oneN l).2) = 0 + (oneN l).2 by omega] at this
  rw [this] at hs
  simpa using hs
theorem prB_byt {c : Nat} (h : c < 256) : Byt (prB c) := by
 have hs : shortB c < 256 := by
  unfold shortB; repeat' (first | omega | split)
 have hd : ∀ n, n < 16 -> qdigB n < 256 := fun n hn => by unfold qdigB; split <;> omega
 unfold prB; intro x hx; split at hx
 ·simp at hx; omega
 split at hx
 ·have h1 := hd (c / 16) (by omega)
  have h2 := hd (c % 16) (by omega)
  simp at hx; omega
 ·simp at hx; omega
theorem flat_byt {l : List Nat} (h : Byt l) : Byt (l.flatMap prB) := fun x hx => by
 obtain ⟨c, hc, hx2⟩ := List.mem_flatMap.1 hx; exact prB_byt (h c hc) x hx2
theorem body_print : ∀ (k : Nat) (l m : List Nat), l.length <= k -> Txt l -> Byt m -> bodyQ (l.flatMap prB ++ 34 :: m) = (l, (l.flatMap prB).length + 1, 0)
 | k, l, m, hk, hl, hm => by
  have hB : Byt (l.flatMap prB ++ 34 :: m) := fun x hx => by
   rcases List.mem_append.1 hx with h1 | h1
   ·exact flat_byt hl.1 x h1
   ·rcases List.mem_cons.1 h1 with rfl | h2
    ·omega
    ·exact hm x h2
  by_cases h0 : l = []
  ·subst h0
   rw [bodyQ_step hB]; simp
  ·obtain ⟨c, r, hc, rfl, hr⟩ := hl.step h0
   have hpl := putN_len c; have hw := wid_pos c
   cases k with
   | zero => rw [List.length_append] at hk; omega
   | succ k =>
    have ih := body_print k r m (by rw [List.length_append] at hk; omega) hr hm
    obtain ⟨p1, p2⟩ := partQ_scalar hc (r.flatMap prB ++ 34 :: m); have e : (putN c ++ r).flatMap prB ++ 34 :: m = (putN c).flatMap prB ++ (r.flatMap prB ++ 34 :: m) := by simp
    rw [e] at hB ⊢; rw [bodyQ_step hB, if_neg p2, p1]; simp only [ne_eq, not_true_eq_false, if_false, List.drop_left', ih]; simp
    omega
theorem scan_print {l m : List Nat} (hl : Txt l) (hm : Byt m) : scanQ (printQ l ++ m) = (l, (printQ l).length, 0) := by
 unfold printQ; have e : 34 :: (l.flatMap prB ++ [34]) ++ m = 34 :: (l.flatMap prB ++ 34 :: m) := by simp
 rw [e]; simp only [scanQ, ne_eq, not_true_eq_false, if_false, body_print l.length l m (Nat.le_refl _) hl hm]; simp [joinR]
 omega
end Go.Proofs.YthbhknfhmkhfgaaGreatDoor
namespace Go.Proofs.YthbhknfhmkhfgaaGreatDoor
set_option maxRecDepth 100000
set_option maxHeartbeats 20000000
theorem unitF_more : ∀ (k n : Nat) (l m : List Nat), (unitF k n l).2 = 0 -> unitF k n (l.take k ++ m) = unitF k n l
 | 0, _, _, _, _ => by simp [unitF]
 | _ + 1, _, [], _, h => by simp [unitF] at h
 | k + 1, n, c :: r, m, h => by
  simp only [unitF, List.take_succ_cons, List.cons_append] at h ⊢
  cases hc : hexV c with
  | none => simp [hc] at h
  | some d =>
   rw [hc] at h; simp only at h ⊢; exact unitF_more k _ r m h
theorem unitQ_more {l : List Nat} (h : (unitQ l).2 = 0) (m : List Nat) : unitQ (l.take 4 ++ m) = unitQ l := unitF_more 4 0 l m h
theorem lowQ_more {n : Nat} {l : List Nat} (h : (lowQ n l).2.2 = 0) (m : List Nat) : lowQ n (l.take 6 ++ m) = lowQ n l := by
 match l with
 | [] => simp [lowQ, errR] at h
 | [c] => by_cases hc : c = 92 <;> simp [lowQ, errR, hc] at h
 | c :: d :: u =>
  by_cases hc : c = 92
  ·by_cases hd : d = 117
   ·have h1 : (unitQ u).2 = 0 := by
     unfold lowQ at h; simp only at h; rw [if_neg (by simp [hc]), if_neg (by simp [hd])] at h
     by_cases hu : (unitQ u).2 = 0
     ·exact hu
     ·rw [if_pos (by simpa using hu)] at h; exact absurd h hu
    have h2 := unitQ_more h1 m; subst hc; subst hd; simp only [List.take_succ_cons, List.cons_append, lowQ, h2]
   ·unfold lowQ at h; simp only at h; rw [if_neg (by simp [hc]), if_pos (by simpa using hd)] at h; simp [errR] at h
  ·unfold lowQ at h; simp only at h; rw [if_pos (by simpa using hc)] at h; simp [errR] at h
theorem codedQ_more {r : List Nat} (h : (codedQ r).2.2 = 0) (m : List Nat) : codedQ (r.take ((codedQ r).2.1 - 2) ++ m) = codedQ r := by
 have hsz := codedQ_ok h
 have hu : (unitQ r).2 = 0 := by
  unfold codedQ at h
  by_cases hu : (unitQ r).2 = 0
  ·exact hu
  ·rw [if_pos (by simpa using hu)] at h; exact absurd h hu
 have hv := unitQ_val hu; unfold codedQ at h ⊢; rw [if_neg (by simp [hu])] at h
 by_cases h1 : 56320 <= (unitQ r).1 /\ (unitQ r).1 <= 57343
 ·rw [if_pos h1] at h; simp [errR] at h
 rw [if_neg h1] at h
 by_cases h2 : (unitQ r).1 < 55296 \/ 57343 < (unitQ r).1
 ·have hq : unitQ (r.take 4 ++ m) = unitQ r := unitQ_more hu m
  simp only [if_neg (show ¬ (unitQ r).2 ≠ 0 by simp [hu]), if_neg h1, if_pos h2]
  simp only [show 6 - 2 = 4 from rfl, hq]; simp only [if_neg (show ¬ (unitQ r).2 ≠ 0 by simp [hu]), if_neg h1, if_pos h2]
 ·rw [if_neg h2] at h
  obtain ⟨_, _, _, h12, h6⟩ := lowQ_ok (by omega) h
  have hl : 10 <= r.length := by simp at h6; omega
  have hq : unitQ (r.take 10 ++ m) = unitQ r := by
   have := unitQ_more hu ((r.take 10).drop 4 ++ m); rw [<- this]
   congr 1
   rw [<- List.append_assoc]
   congr 1
   conv => lhs; rw [<- List.take_append_drop 4 (r.take 10)]
   rw [List.take_take]; rfl
  have hd : (r.take 10 ++ m).drop 4 = (r.drop 4).take 6 ++ m := by
   rw [List.drop_append_of_le_length (by simp; omega), List.drop_take]
  simp only [if_neg (show ¬ (unitQ r).2 ≠ 0 by simp [hu]), if_neg h1, if_neg h2, h12]
  simp only [show 12 - 2 = 10 from rfl, hq]; simp only [if_neg (show ¬ (unitQ r).2 ≠ 0 by simp [hu]), if_neg h1, if_neg h2, hd]
  exact lowQ_more h m
theorem partQ_more {l : List Nat} (hl : Byt l) (h : (partQ l).2.2 = 0) (m : List Nat) : partQ (l.take (partQ l).2.1 ++ m) = partQ l := by
 have hok := partQ_ok hl h
 match l with
 | [] => simp [partQ, errR] at h
 | c :: r =>
  simp only [partQ] at h hok ⊢
  by_cases h1 : c < 32
  ·rw [if_pos h1] at h; simp [errR] at h
  rw [if_neg h1] at h hok ⊢
  by_cases h2 : c = 92
  ·rw [if_pos h2] at h hok ⊢
   match r with
   | [] => simp [escQ, errR] at h
   | d :: t =>
    simp only [escQ] at h hok ⊢
    cases hd : escB d with
    | some b =>
     rw [hd] at h hok; simp only [List.take_succ_cons, List.cons_append, List.take_zero]; rw [if_neg h1, if_pos h2]; simp only [hd]
    | none =>
     rw [hd] at h hok; simp only at h hok ⊢
     by_cases h3 : d = 117
     ·rw [if_pos h3] at h hok ⊢
      have hm := codedQ_more h m
      obtain ⟨k, hk⟩ : ∃ k, (codedQ t).2.1 = k + 2 := by
       have : (codedQ t).2.1 = 6 \/ (codedQ t).2.1 = 12 := by
        unfold codedQ at h ⊢
        by_cases hu : (unitQ t).2 = 0
        ·rw [if_neg (by simp [hu])] at h ⊢
         by_cases g1 : 56320 <= (unitQ t).1 /\ (unitQ t).1 <= 57343
         ·rw [if_pos g1] at h; simp [errR] at h
         ·rw [if_neg g1] at h ⊢
          by_cases g2 : (unitQ t).1 < 55296 \/ 57343 < (unitQ t).1
          ·rw [if_pos g2]; exact .inl rfl
          ·rw [if_neg g2] at h ⊢
           exact .inr (lowQ_ok (by omega) h).choose_spec.2.2.1
        ·rw [if_pos (by simpa using hu)] at h; exact absurd h hu
       rcases this with h | h
       ·exact ⟨4, h⟩
       ·exact ⟨10, h⟩
      rw [hk] at hm; simp only [Nat.add_sub_cancel] at hm; rw [hk]; simp only [List.take_succ_cons, List.cons_append]; rw [if_neg h1, if_pos h2]; simp only [hd]; rw [if_pos h3, hm]
     ·rw [if_neg h3] at h; simp [errR] at h
  ·rw [if_neg h2] at h hok ⊢
   by_cases h3 : (oneN (c :: r)).2 = 0
   ·rw [if_pos h3] at h; simp [errR] at h
   ·rw [if_neg h3] at hok ⊢
    obtain ⟨q1, q2, q3, q4⟩ := put_oneN (c := (oneN (c :: r)).1) (n := (oneN (c :: r)).2) hl rfl h3
    have hn : oneN ((c :: r).take (oneN (c :: r)).2 ++ m) = oneN (c :: r) := by
     have h5 := oneN_put q1 m; rw [show putN (oneN (c :: r)).1 = (c :: r).take (oneN (c :: r)).2 from q3, q2] at h5; exact h5
    simp only; obtain ⟨j, hj⟩ : ∃ j, (oneN (c :: r)).2 = j + 1 := ⟨(oneN (c :: r)).2 - 1, by omega⟩
    have hc : (c :: r).take (oneN (c :: r)).2 ++ m = c :: (r.take j ++ m) := by rw [hj]; simp
    rw [hc] at hn ⊢; simp only; rw [if_neg h1, if_neg h2, hn, if_neg h3]
    congr 1
    rw [<- hc]; rw [List.take_append_of_le_length (by rw [List.length_take]; omega), List.take_take, Nat.min_self]
theorem bodyQ_more : ∀ (k : Nat) (l m : List Nat), l.length <= k -> Byt l -> Byt m -> (bodyQ l).2.2 = 0 -> bodyQ (l.take (bodyQ l).2.1 ++ m) = bodyQ l
 | k, l, m, hk, hl, hm, h => by
  have hb : ∀ j, Byt (l.take j ++ m) := fun j x hx => by
   rcases List.mem_append.1 hx with hx | hx
   ·exact hl x (List.mem_of_mem_take hx)
   ·exact hm x hx
  by_cases h34 : l.head? = some 34
  ·have e : bodyQ l = ([], 1, 0) := by rw [bodyQ_step hl, if_pos h34]
   rw [e]; simp only
   cases l with
   | nil => cases h34
   | cons c r =>
    have hc : c = 34 := by simpa using h34
    subst hc; rw [bodyQ_step (hb 1), if_pos (by simp)]
  ·have hp : (partQ l).2.2 = 0 := by
    refine Decidable.byContradiction fun hn => ?_; rw [bodyQ_step hl, if_neg h34, if_pos hn] at h; exact hn h
   obtain ⟨_, _, _, q3, q4⟩ := partQ_ok hl hp
   have hr : (bodyQ (l.drop (partQ l).2.1)).2.2 = 0 := by
    refine Decidable.byContradiction fun hn => ?_; rw [bodyQ_step hl, if_neg h34, if_neg (by simp [hp]), if_pos hn] at h
    exact hn h
   have e : bodyQ l = ((partQ l).1 ++ (bodyQ (l.drop (partQ l).2.1)).1, (partQ l).2.1 + (bodyQ (l.drop (partQ l).2.1)).2.1, 0) := by
    rw [bodyQ_step hl, if_neg h34, if_neg (by simp [hp]), if_neg (by simp [hr])]
   cases k with
   | zero => omega
   | succ k =>
    have ih := bodyQ_more k (l.drop (partQ l).2.1) m (by simp; omega) (hl.drop _) hm hr
    rw [e]; simp only
    have hsp : l.take ((partQ l).2.1 + (bodyQ (l.drop (partQ l).2.1)).2.1) ++ m = l.take (partQ l).2.1 ++ ((l.drop (partQ l).2.1).take (bodyQ (l.drop (partQ l).2.1)).2.1 ++ m) := by
     rw [List.take_add, List.append_assoc]
    have hpm := partQ_more hl hp ((l.drop (partQ l).2.1).take (bodyQ (l.drop (partQ l).2.1)).2.1 ++ m); rw [hsp]; have hbb := hb ((partQ l).2.1 + (bodyQ (l.drop (partQ l).2.1)).2.1); rw [hsp] at hbb
    have hh : (l.take (partQ l).2.1 ++ ((l.drop (partQ l).2.1).take (bodyQ (l.drop (partQ l).2.1)).2.1 ++ m)).head? ≠ some 34 := by
     cases l with
     | nil => simp at q4; omega
     | cons c r =>
      obtain ⟨j, hj⟩ : ∃ j, (partQ (c :: r)).2.1 = j + 1 := ⟨(partQ (c :: r)).2.1 - 1, by omega⟩
      rw [hj]
      simpa using h34
    rw [bodyQ_step hbb, if_neg hh, hpm, if_neg (by simp [hp])]
    have hd : (l.take (partQ l).2.1 ++ ((l.drop (partQ l).2.1).take (bodyQ (l.drop (partQ l).2.1)).2.1 ++ m)).drop (partQ l).2.1 = (l.drop (partQ l).2.1).take (bodyQ (l.drop (partQ l).2.1)).2.1 ++ m := by
     rw [List.drop_append_of_le_length (by rw [List.length_take]; omega), List.drop_eq_nil_of_le (by rw [List.length_take]; omega), List.nil_append]
    rw [hd, ih, if_neg (by simp [hr])]
theorem scanQ_more {l m : List Nat} (hl : Byt l) (hm : Byt m) (h : (scanQ l).2.2 = 0) : scanQ (l.take (scanQ l).2.1 ++ m) = scanQ l := by
 cases l with
 | nil => simp [scanQ, errR] at h
 | cons c r =>
  have hc : c = 34 := by
   refine Decidable.byContradiction fun hn => ?_; rw [scanQ, if_pos hn] at h; simp [errR] at h
  have e : scanQ (c :: r) = joinR [] 1 (bodyQ r) := by rw [scanQ, if_neg (by simpa using hc)]
  have hb : (bodyQ r).2.2 = 0 := by
   refine Decidable.byContradiction fun hn => ?_; rw [e, joinR, if_pos hn] at h; exact hn h
  have ih := bodyQ_more r.length r m (Nat.le_refl _) (fun x hx => hl x (by simp [hx])) hm hb
  rw [e, joinR, if_neg (by simp [hb])]
  simp only; rw [Nat.add_comm 1, List.take_succ_cons, List.cons_append, scanQ, if_neg (by simpa using hc), ih, joinR, if_neg (by simp [hb])]
  simp [Nat.add_comm]
theorem quoX_tok {l : Bs} {k n : Nat} (h : one1 l = .tok k n) (hk : k = 3) : quoX (strL (l.take n)) ≠ none := by
 subst hk
 cases l with
 | nil => cases h
 | cons c r =>
  rw [one1] at h; split at h
  ·simp only [LR.tok.injEq] at h; omega
  split at h
  ·unfold num1 at h
   split at h
   ·simp only [LR.tok.injEq] at h; omega
   ·cases h
  split at h
  ·unfold quo1 at h
   split at h
   ·next hz =>
    simp only [LR.tok.injEq, true_and] at h; subst h; have hsz := scanQ_size (nb_byt (c :: r)) hz; have hm := scanQ_more (m := []) (nb_byt (c :: r)) (fun x hx => by cases hx) hz
    rw [List.append_nil] at hm; have hnb : nb ((c :: r).take (scanQ (nb (c :: r))).2.1) = (nb (c :: r)).take (scanQ (nb (c :: r))).2.1 := by unfold nb; rw [List.map_take]
    unfold quoX; rw [strL_list, hnb, hm, if_pos]
    ·simp
    ·refine ⟨hz, ?_⟩
     rw [size_list, strL_list, List.length_take]; rw [nb_len] at hsz; omega
   ·cases h
  split at h
  ·simp only [LR.tok.injEq] at h; omega
  split at h
  ·unfold remT at h
   split at h
   ·cases h
   ·simp only [LR.tok.injEq] at h; omega
  split at h
  ·unfold aside1 at h
   split at h
   ·cases h
   ·split at h
    ·cases h
    ·unfold remT at h
     split at h
     ·cases h
     ·simp only [LR.tok.injEq] at h; omega
  split at h
  ·cases h
  ·simp only [LR.tok.injEq] at h; omega
theorem lexL_quo : ∀ (k : Nat) (l : Bs) (p : Nat), l.length <= k -> ∀ t ∈ (lexL l p).1, t.kind = 3 -> quoX t.text ≠ none
 | k, [], p, _, t, ht, _ => by rw [lexL_nil] at ht; cases ht
 | 0, c :: l, p, hk, _, _, _ => by simp at hk
 | k + 1, c :: l, p, hk, t, ht, h3 => by
  simp only [List.length_cons] at hk
  cases hb : blankB c with
  | true =>
   rw [lexL_blank hb] at ht; exact lexL_quo k l (p + 1) (by omega) t ht h3
  | false =>
   cases ho : one1 (c :: l) with
   | bad o e => rw [lexL_bad hb ho] at ht; cases ht
   | tok kd sz =>
    have hs := one1_size ho; rw [lexL_tok hb ho] at ht; rcases List.mem_cons.1 ht with rfl | ht
    ·exact quoX_tok ho (by simp only at h3; omega)
    ·exact lexL_quo k _ _ (by rw [List.length_drop, List.length_cons]; omega) t ht h3
end Go.Proofs.YthbhknfhmkhfgaaGreatDoor
namespace Go.Proofs.YthbhknfhmkhfgaaGreatDoor
set_option maxRecDepth 100000
set_option maxHeartbeats 20000000
abbrev Pcs := List (Option Tok)
def tS (w : ByteArray) : Tok := ⟨4, w, 0⟩
abbrev pS (w : ByteArray) : Option Tok := some (tS w)
def quoS (t : ByteArray) : ByteArray := strOf (un (printQ (bs t)))
def brk (n : Int) (x : Int × Pcs) : Pcs := if n <= x.1 then x.2 else pS sLp :: (x.2 ++ [pS sRp])
def commas : List Pcs -> Pcs
 | [] => []
 | [a] => a
 | a :: b :: r => a ++ pS sComma :: none :: commas (b :: r)
def pcK (op text : ByteArray) (ls : List (Int × Pcs)) : Pcs :=
 if op = oName then [some ⟨1, text, 0⟩] else if op = oNum then [some ⟨2, text, 0⟩] else if op = oText then [some ⟨3, quoS text, 0⟩]
 else if op = oCall then some ⟨1, text, 0⟩ :: pS sLp :: (commas (ls.map (·.2)) ++ [pS sRp])
 else if op = oList then pS sLb :: (commas (ls.map (·.2)) ++ [pS sRb])
 else match ls with
  | [a] => if op = oGet then brk 8 a ++ [pS sDot, some ⟨1, text, 0⟩] else if op = oNeg then pS sMinus :: brk 7 a else pS sBang :: brk 7 a
  | [a, b] => if op = oAt then brk 8 a ++ pS sLb :: (b.2 ++ [pS sRb]) else brk (lvN op) a ++ none :: pS op :: none :: brk (lvN op + 1) b
  | [a, b, c] => brk 1 a ++ none :: pS sQ :: none :: (b.2 ++ none :: pS sCo :: none :: c.2)
  | _ => []
mutual
def pcX : Exp -> Pcs
 | .mk o t ks => pcK o t (pcs ks)
def pcs : List Exp -> List (Int × Pcs)
 | [] => []
 | k :: r => (lvN k.op, pcX k) :: pcs r
end
def tkP (l : Pcs) : List Tok := l.filterMap id
def prX (e : Exp) : List Tok := tkP (pcX e)
def lst (n : Int) (e : Exp) : List Tok := if n <= lvN e.op then prX e else tS sLp :: (prX e ++ [tS sRp])
def comT : List Exp -> List Tok
 | [] => []
 | [a] => prX a
 | a :: b :: r => prX a ++ tS sComma :: comT (b :: r)
theorem tkP_app (a b : Pcs) : tkP (a ++ b) = tkP a ++ tkP b := List.filterMap_append
theorem tkP_some (t : Tok) (a : Pcs) : tkP (some t :: a) = t :: tkP a := rfl
theorem tkP_none (a : Pcs) : tkP (none :: a) = tkP a := rfl
theorem tkP_brk (n : Int) (e : Exp) : tkP (brk n (lvN e.op, pcX e)) = lst n e := by
 unfold brk lst; split
 ·rfl
 ·rw [tkP_some, tkP_app]; rfl
theorem tkP_commas : ∀ l : List Exp, tkP (commas ((pcs l).map (·.2))) = comT l
 | [] => rfl
 | [a] => by simp only [pcs, List.map_cons, List.map_nil, commas, comT]; rfl
 | a :: b :: r => by
  have ih := tkP_commas (b :: r); simp only [pcs, List.map_cons, commas, comT] at ih ⊢; rw [tkP_app, tkP_some, tkP_none, ih]; rfl
inductive Shp : ByteArray -> ByteArray -> List Exp -> Prop where
 | name (t : ByteArray) : aloneB t 1 = true -> Shp oName t []
 | num (t : ByteArray) : aloneB t 2 = true -> Shp oNum t []
 | text (t : ByteArray) : validB t = true -> Shp oText t []
 | call (t : ByteArray) (ks : List Exp) : aloneB t 1 = true -> Shp oCall t ks
 | list (ks : List Exp) : Shp oList oNo ks
 | get (t : ByteArray) (a : Exp) : aloneB t 1 = true -> Shp oGet t [a]
 | at_ (a b : Exp) : Shp oAt oNo [a, b]
 | bang (a : Exp) : Shp sBang oNo [a]
 | neg (a : Exp) : Shp oNeg oNo [a]
 | choice (a b c : Exp) : Shp sQ oNo [a, b, c]
 | two (o : ByteArray) (lv : Nat) (a b : Exp) : lvN o = (lv : Int) -> 1 <= lv -> lv <= 6 -> o ≠ oName /\ o ≠ oNum /\ o ≠ oText /\ o ≠ oCall /\ o ≠ oList /\ o ≠ oAt -> o ∈ ([[124, 124], [38, 38], [61, 61], [33, 61], [60], [62], [60, 61], [62, 61], [43], [45], [42], [47], [37]] : List Bs).map strL -> Shp o oNo [a, b]
theorem len1 {l : List Exp} (h : l.length = 1) : ∃ a, l = [a] := by
 match l, h with
 | [a], _ => exact ⟨a, rfl⟩
theorem len2 {l : List Exp} (h : l.length = 2) : ∃ a b, l = [a, b] := by
 match l, h with
 | [a, b], _ => exact ⟨a, b, rfl⟩
theorem shp_of {o t : ByteArray} {ks : List Exp} (h : okX o t ks.length = true) : Shp o t ks := by
 unfold okX at h; rcases k_cases o with ⟨x, hx, e, hk⟩ | ⟨hk, -⟩
 ·rw [hk] at h
  simp only [Bool.and_eq_true, Bool.or_eq_true, decide_eq_true_eq] at h; obtain ⟨h1, h2⟩ := h; subst e; simp only [kTab, List.mem_cons, List.not_mem_nil, or_false] at hx
  have two : ∀ (b : Bs) (lv : Nat) (x : Bs × Int × Nat), x = (b, 2, 0) -> lvN (strL b) = (lv : Int) -> 1 <= lv -> lv <= 6 -> (strL b ≠ oName /\ strL b ≠ oNum /\ strL b ≠ oText /\ strL b ≠ oCall /\ strL b ≠ oList /\ strL b ≠ oAt) -> b ∈ ([[124, 124], [38, 38], [61, 61], [33, 61], [60], [62], [60, 61], [62, 61], [43], [45], [42], [47], [37]] : List Bs) -> (x.2.1 = -1 \/ x.2.1 = (ks.length : Int)) -> txtB x.2.2 t = true -> Shp (strL b) t ks := by
   intro b lv x hx h3 h4 h5 h6 h7 h8 h9; subst hx; obtain ⟨a, c, rfl⟩ := len2 (l := ks) (by simp only at h8; omega)
   simp only [txtB, decide_eq_true_eq] at h9; subst h9; exact .two _ lv a c h3 h4 h5 h6 (List.mem_map.2 ⟨b, h7, rfl⟩)
  rcases hx with rfl | rfl | rfl | rfl | rfl | rfl | rfl | rfl | rfl | rfl | rfl | rfl | rfl | rfl | rfl | rfl | rfl | rfl | rfl | rfl | rfl | rfl | rfl
  ·obtain ⟨a, b, c, rfl⟩ := len3 (l := ks) (by simp only at h1; omega)
   simp only [txtB, decide_eq_true_eq] at h2; subst h2; exact .choice a b c
  ·exact two _ 1 _ rfl lvv1 (by omega) (by omega) (by decide) (by decide) h1 h2
  ·exact two _ 2 _ rfl lvv2 (by omega) (by omega) (by decide) (by decide) h1 h2
  ·exact two _ 3 _ rfl lvv3 (by omega) (by omega) (by decide) (by decide) h1 h2
  ·exact two _ 3 _ rfl lvv4 (by omega) (by omega) (by decide) (by decide) h1 h2
  ·exact two _ 4 _ rfl lvv5 (by omega) (by omega) (by decide) (by decide) h1 h2
  ·exact two _ 4 _ rfl lvv6 (by omega) (by omega) (by decide) (by decide) h1 h2
  ·exact two _ 4 _ rfl lvv7 (by omega) (by omega) (by decide) (by decide) h1 h2
  ·exact two _ 4 _ rfl lvv8 (by omega) (by omega) (by decide) (by decide) h1 h2
  ·exact two _ 5 _ rfl lvv9 (by omega) (by omega) (by decide) (by decide) h1 h2
  ·exact two _ 5 _ rfl lvv10 (by omega) (by omega) (by decide) (by decide) h1 h2
  ·exact two _ 6 _ rfl lvv11 (by omega) (by omega) (by decide) (by decide) h1 h2
  ·exact two _ 6 _ rfl lvv12 (by omega) (by omega) (by decide) (by decide) h1 h2
  ·exact two _ 6 _ rfl lvv13 (by omega) (by omega) (by decide) (by decide) h1 h2
  ·obtain ⟨a, rfl⟩ := len1 (l := ks) (by simp only at h1; omega)
   simp only [txtB, decide_eq_true_eq] at h2; subst h2; exact .bang a
  ·obtain ⟨a, rfl⟩ := len1 (l := ks) (by simp only at h1; omega)
   simp only [txtB, decide_eq_true_eq] at h2; subst h2; exact .neg a
  ·obtain ⟨a, rfl⟩ := len1 (l := ks) (by simp only at h1; omega)
   exact .get t a h2
  ·obtain ⟨a, b, rfl⟩ := len2 (l := ks) (by simp only at h1; omega)
   simp only [txtB, decide_eq_true_eq] at h2; subst h2; exact .at_ a b
  ·obtain rfl := List.eq_nil_of_length_eq_zero (l := ks) (by simp only at h1; omega)
   exact .name t h2
  ·exact .call t ks h2
  ·obtain rfl := List.eq_nil_of_length_eq_zero (l := ks) (by simp only at h1; omega)
   exact .num t h2
  ·obtain rfl := List.eq_nil_of_length_eq_zero (l := ks) (by simp only at h1; omega)
   exact .text t h2
  ·simp only [txtB, decide_eq_true_eq] at h2
   subst h2; exact .list ks
 ·rw [hk] at h; cases h
theorem Shp.ok {o t : ByteArray} {ks : List Exp} (h : rightX (.mk o t ks) = true) : Shp o t ks /\ ∀ k ∈ ks, rightX k = true := by
 rw [rightX, Bool.and_eq_true] at h; refine ⟨shp_of h.1, ?_⟩
 have : ∀ l : List Exp, rightXs l = true -> ∀ k ∈ l, rightX k = true := by
  intro l
  induction l with
  | nil => intro _ k hk; cases hk
  | cons a r ih =>
   intro h k hk; rw [rightXs, Bool.and_eq_true] at h; rcases List.mem_cons.1 hk with rfl | hk
   ·exact h.1
   ·exact ih h.2 k hk
 exact this ks h.2
theorem pr_name (t : ByteArray) (ks : List Exp) : prX (.mk oName t ks) = [⟨1, t, 0⟩] := by simp only [prX, pcX, pcK, if_true]; rfl
theorem pr_num (t : ByteArray) (ks : List Exp) : prX (.mk oNum t ks) = [⟨2, t, 0⟩] := by
 simp only [prX, pcX, pcK]; rw [if_neg (by decide), if_pos trivial]; rfl
theorem pr_text (t : ByteArray) (ks : List Exp) : prX (.mk oText t ks) = [⟨3, quoS t, 0⟩] := by
 simp only [prX, pcX, pcK]; rw [if_neg (by decide), if_neg (by decide), if_pos trivial]; rfl
theorem pr_call (t : ByteArray) (ks : List Exp) : prX (.mk oCall t ks) = ⟨1, t, 0⟩ :: tS sLp :: (comT ks ++ [tS sRp]) := by
 simp only [prX, pcX, pcK]; rw [if_neg (by decide), if_neg (by decide), if_neg (by decide), if_pos trivial, tkP_some, tkP_some, tkP_app, tkP_commas]; rfl
theorem pr_list (t : ByteArray) (ks : List Exp) : prX (.mk oList t ks) = tS sLb :: (comT ks ++ [tS sRb]) := by
 simp only [prX, pcX, pcK]; rw [if_neg (by decide), if_neg (by decide), if_neg (by decide), if_neg (by decide), if_pos trivial, tkP_some, tkP_app, tkP_commas]; rfl
theorem pr_get (t : ByteArray) (a : Exp) : prX (.mk oGet t [a]) = lst 8 a ++ [tS sDot, ⟨1, t, 0⟩] := by
 simp only [prX, pcX, pcK, pcs]; rw [if_neg (by decide), if_neg (by decide), if_neg (by decide), if_neg (by decide), if_neg (by decide), if_pos trivial, tkP_app, tkP_brk]; rfl
theorem pr_at (t : ByteArray) (a b : Exp) : prX (.mk oAt t [a, b]) = lst 8 a ++ tS sLb :: (prX b ++ [tS sRb]) := by
 simp only [prX, pcX, pcK, pcs]; rw [if_neg (by decide), if_neg (by decide), if_neg (by decide), if_neg (by decide), if_neg (by decide), if_pos trivial, tkP_app, tkP_brk, tkP_some, tkP_app]; rfl
theorem pr_neg (t : ByteArray) (a : Exp) : prX (.mk oNeg t [a]) = tS sMinus :: lst 7 a := by
 simp only [prX, pcX, pcK, pcs]; rw [if_neg (by decide), if_neg (by decide), if_neg (by decide), if_neg (by decide), if_neg (by decide), if_neg (by decide), if_pos trivial, tkP_some, tkP_brk]
theorem pr_bang (t : ByteArray) (a : Exp) : prX (.mk sBang t [a]) = tS sBang :: lst 7 a := by
 simp only [prX, pcX, pcK, pcs]; rw [if_neg (by decide), if_neg (by decide), if_neg (by decide), if_neg (by decide), if_neg (by decide), if_neg (by decide), if_neg (by decide), tkP_some, tkP_brk]
theorem pr_choice (t : ByteArray) (a b c : Exp) : prX (.mk sQ t [a, b, c]) = lst 1 a ++ tS sQ :: (prX b ++ tS sCo :: prX c) := by
 simp only [prX, pcX, pcK, pcs]; rw [if_neg (by decide), if_neg (by decide), if_neg (by decide), if_neg (by decide), if_neg (by decide), tkP_app, tkP_brk, tkP_none, tkP_some, tkP_none, tkP_app, tkP_none, tkP_some, tkP_none]
 try rfl
theorem pr_two {o : ByteArray} (t : ByteArray) (a b : Exp) (h : o ≠ oName /\ o ≠ oNum /\ o ≠ oText /\ o ≠ oCall /\ o ≠ oList /\ o ≠ oAt) : prX (.mk o t [a, b]) = lst (lvN o) a ++ tS o :: lst (lvN o + 1) b := by
 simp only [prX, pcX, pcK, pcs]; rw [if_neg h.1, if_neg h.2.1, if_neg h.2.2.1, if_neg h.2.2.2.1, if_neg h.2.2.2.2.1, if_neg h.2.2.2.2.2, tkP_app, tkP_brk, tkP_none, tkP_some, tkP_none, tkP_brk]
def Or5 (g G : GotX) : Prop := g = G \/ g.2.2 = 5
def Tells (t : Nt) (r : List Tok) (d : Nat) (x : Exp) (n : Nat) : Prop := ∃ N, ∀ m, N <= m -> Or5 (parX m t r d) (x, n, 0)
theorem Or5.and {g G : GotX} {x : Exp} {n : Nat} {f : Exp -> Nat -> GotX} (h : Or5 g (x, n, 0)) (hf : Or5 (f x n) G) : Or5 (andX g f) G := by
 rcases h with rfl | h
 ·exact hf
 ·refine .inr ?_
  rw [andX_bad (by rw [h]; decide)]
  exact h
theorem Or5.up {g : GotX} {x : Exp} {n : Nat} (k : Nat) (h : Or5 g (x, n, 0)) : Or5 (upX k g) (x, k + n, 0) := by
 rcases h with rfl | h
 ·exact .inl rfl
 ·exact .inr h
theorem Or5.deep {G : GotX} {n : Nat} : Or5 (deepX n) G := .inr rfl
theorem Tells.eq {t : Nt} {r : List Tok} {d n n2 : Nat} {x : Exp} (h : Tells t r d x n) (e : n = n2) : Tells t r d x n2 := e ▸ h
theorem isS_tS (w v : ByteArray) (r : List Tok) : isS (tS w :: r) v = decide (w = v) := by
 show (decide ((4 : Int) = 4) && decide (w = v)) = decide (w = v); simp
theorem T_choice1 {r : List Tok} {d k : Nat} {a : Exp} (h : Tells (.term 1) r d a k) (hq : isS (r.drop k) sQ = false) : Tells .choice r d a k := by
 obtain ⟨N, h⟩ := h; refine ⟨N + 1, fun m hm => ?_⟩; obtain ⟨m, rfl⟩ : ∃ k, m = k + 1 := ⟨m - 1, by omega⟩
 rw [parX]; refine (h m (by omega)).and ?_
 rw [if_pos hq]; exact .inl rfl
theorem T_choice3 {r : List Tok} {d k m1 m2 : Nat} {a b c : Exp} (h : Tells (.term 1) r d a k) (hq : isS (r.drop k) sQ = true) (h1 : Tells .choice (r.drop (k + 1)) (d + 1) b m1) (hc : isS (r.drop (k + 1 + m1)) sCo = true) (h2 : Tells .choice (r.drop (k + 1 + m1 + 1)) (d + 1) c m2) :
  Tells .choice r d (.mk sQ oNo [a, b, c]) (k + 1 + m1 + 1 + m2) := by
 obtain ⟨N, h⟩ := h; obtain ⟨N1, h1⟩ := h1; obtain ⟨N2, h2⟩ := h2; refine ⟨N + N1 + N2 + 1, fun m hm => ?_⟩; obtain ⟨m, rfl⟩ : ∃ k, m = k + 1 := ⟨m - 1, by omega⟩
 rw [parX]; refine (h m (by omega)).and ?_
 rw [if_neg (by rw [hq]; decide)]
 split
 ·exact .deep
 ·refine ((h1 m (by omega)).up _).and ?_
  rw [if_neg (by rw [hc]; decide)]
  exact ((h2 m (by omega)).up _).and (.inl rfl)
theorem T_term7 {r : List Tok} {d n lv : Nat} {x : Exp} (h7 : 7 <= lv) (h : Tells .tight r d x n) : Tells (.term lv) r d x n := by
 obtain ⟨N, h⟩ := h; refine ⟨N + 1, fun m hm => ?_⟩; obtain ⟨m, rfl⟩ : ∃ k, m = k + 1 := ⟨m - 1, by omega⟩
 rw [parX, if_pos h7]; exact h m (by omega)
theorem T_term {r : List Tok} {d k n lv : Nat} {a x : Exp} (h7 : lv < 7) (h : Tells (.term (lv + 1)) r d a k) (h2 : Tells (.tloop lv a) (r.drop k) d x n) : Tells (.term lv) r d x (k + n) := by
 obtain ⟨N, h⟩ := h; obtain ⟨N2, h2⟩ := h2; refine ⟨N + N2 + 1, fun m hm => ?_⟩; obtain ⟨m, rfl⟩ : ∃ k, m = k + 1 := ⟨m - 1, by omega⟩
 rw [parX, if_neg (by omega)]
 exact (h m (by omega)).and ((h2 m (by omega)).up _)
theorem T_tend {r : List Tok} {d lv : Nat} {a : Exp} (h : isL r lv = none) : Tells (.tloop lv a) r d a 0 := by
 refine ⟨1, fun m hm => ?_⟩; obtain ⟨m, rfl⟩ : ∃ k, m = k + 1 := ⟨m - 1, by omega⟩
 rw [parX, h]; exact .inl rfl
theorem T_tgo {r : List Tok} {d lv k n : Nat} {a b x : Exp} {o : ByteArray} (h : isL r lv = some o) (h1 : Tells (.term (lv + 1)) (r.drop 1) d b k) (h2 : Tells (.tloop lv (.mk o oNo [a, b])) (r.drop (1 + k)) d x n) : Tells (.tloop lv a) r d x (1 + k + n) := by
 obtain ⟨N, h1⟩ := h1; obtain ⟨N2, h2⟩ := h2; refine ⟨N + N2 + 1, fun m hm => ?_⟩; obtain ⟨m, rfl⟩ : ∃ k, m = k + 1 := ⟨m - 1, by omega⟩
 rw [parX, h]; exact ((h1 m (by omega)).up _).and ((h2 m (by omega)).up _)
theorem T_tight0 {r : List Tok} {d n : Nat} {x : Exp} (h1 : isS r sBang = false) (h2 : isS r sMinus = false) (h : Tells .post r d x n) : Tells .tight r d x n := by
 obtain ⟨N, h⟩ := h; refine ⟨N + 1, fun m hm => ?_⟩; obtain ⟨m, rfl⟩ : ∃ k, m = k + 1 := ⟨m - 1, by omega⟩
 rw [parX, if_pos ⟨h1, h2⟩]; exact h m (by omega)
theorem T_tight1 {r : List Tok} {d n : Nat} {a : Exp} (h1 : ¬ (isS r sBang = false /\ isS r sMinus = false)) (h : Tells .tight (r.drop 1) (d + 1) a n) : Tells .tight r d (.mk (if isS r sBang then sBang else oNeg) oNo [a]) (1 + n) := by
 obtain ⟨N, h⟩ := h; refine ⟨N + 1, fun m hm => ?_⟩; obtain ⟨m, rfl⟩ : ∃ k, m = k + 1 := ⟨m - 1, by omega⟩
 rw [parX, if_neg h1]; split
 ·exact .deep
 ·exact ((h m (by omega)).up _).and (.inl rfl)
theorem T_post {r : List Tok} {d k n : Nat} {a x : Exp} (h : Tells .prime r d a k) (h2 : Tells (.ploop a) (r.drop k) d x n) : Tells .post r d x (k + n) := by
 obtain ⟨N, h⟩ := h; obtain ⟨N2, h2⟩ := h2; refine ⟨N + N2 + 1, fun m hm => ?_⟩; obtain ⟨m, rfl⟩ : ∃ k, m = k + 1 := ⟨m - 1, by omega⟩
 rw [parX]; exact (h m (by omega)).and ((h2 m (by omega)).up _)
theorem T_pend {r : List Tok} {d : Nat} {a : Exp} (h1 : isS r sDot = false) (h2 : isS r sLb = false) : Tells (.ploop a) r d a 0 := by
 refine ⟨1, fun m hm => ?_⟩; obtain ⟨m, rfl⟩ : ∃ k, m = k + 1 := ⟨m - 1, by omega⟩
 rw [parX, if_neg (by rw [h1]; decide), if_neg (by rw [h2]; decide)]
 exact .inl rfl
theorem T_pget {t : Tok} {r : List Tok} {d n : Nat} {a x : Exp} (ht : t.kind = 1) (h : Tells (.ploop (.mk oGet t.text [a])) r d x n) : Tells (.ploop a) (tS sDot :: t :: r) d x (2 + n) := by
 obtain ⟨N, h⟩ := h; refine ⟨N + 1, fun m hm => ?_⟩; obtain ⟨m, rfl⟩ : ∃ k, m = k + 1 := ⟨m - 1, by omega⟩
 rw [parX, if_pos (by rw [isS_tS]; decide)]
 simp only [List.drop_succ_cons, List.drop_zero]; rw [if_pos ht]; exact (h m (by omega)).up _
theorem T_pat {r : List Tok} {d k n : Nat} {a b x : Exp} (h1 : Tells .choice r (d + 1) b k) (h2 : isS (r.drop k) sRb = true) (h : Tells (.ploop (.mk oAt oNo [a, b])) (r.drop (k + 1)) d x n) : Tells (.ploop a) (tS sLb :: r) d x (1 + k + 1 + n) := by
 obtain ⟨N1, h1⟩ := h1; obtain ⟨N, h⟩ := h; refine ⟨N + N1 + 1, fun m hm => ?_⟩; obtain ⟨m, rfl⟩ : ∃ k, m = k + 1 := ⟨m - 1, by omega⟩
 rw [parX, if_neg (by rw [isS_tS]; decide), if_pos (by rw [isS_tS]; decide)]
 split
 ·exact .deep
 ·refine ((h1 m (by omega)).up _).and ?_
  have e : ∀ j, (tS sLb :: r).drop (1 + j) = r.drop j := fun j => by rw [Nat.add_comm]; rfl
  rw [e, if_neg (by rw [h2]; decide), show 1 + k + 1 = 1 + (k + 1) by omega, e]
  exact (h m (by omega)).up _
theorem T_name {t : Tok} {r : List Tok} {d : Nat} (ht : t.kind = 1) (h : isS r sLp = false) : Tells .prime (t :: r) d (.mk oName t.text []) 1 := by
 refine ⟨1, fun m hm => ?_⟩; obtain ⟨m, rfl⟩ : ∃ k, m = k + 1 := ⟨m - 1, by omega⟩
 simp only [parX]; rw [if_pos ht, if_neg (by rw [h]; decide)]
 exact .inl rfl
theorem T_num {t : Tok} {r : List Tok} {d : Nat} (ht : t.kind = 2) : Tells .prime (t :: r) d (.mk oNum t.text []) 1 := by
 refine ⟨1, fun m hm => ?_⟩; obtain ⟨m, rfl⟩ : ∃ k, m = k + 1 := ⟨m - 1, by omega⟩
 simp only [parX]; rw [if_neg (by omega), if_pos ht]
 exact .inl rfl
theorem T_text {t : Tok} {r : List Tok} {d : Nat} {s : ByteArray} (ht : t.kind = 3) (hs : quoX t.text = some s) : Tells .prime (t :: r) d (.mk oText s []) 1 := by
 refine ⟨1, fun m hm => ?_⟩; obtain ⟨m, rfl⟩ : ∃ k, m = k + 1 := ⟨m - 1, by omega⟩
 simp only [parX]; rw [if_neg (by omega), if_neg (by omega), if_pos ht, hs]
 exact .inl rfl
theorem T_call {t : Tok} {r : List Tok} {d n : Nat} {x : Exp} (ht : t.kind = 1) (h : Tells (.many sRp) (tS sLp :: r) d x n) : Tells .prime (t :: tS sLp :: r) d (.mk oCall t.text x.kids) (1 + n) := by
 obtain ⟨N, h⟩ := h; refine ⟨N + 1, fun m hm => ?_⟩; obtain ⟨m, rfl⟩ : ∃ k, m = k + 1 := ⟨m - 1, by omega⟩
 simp only [parX]; rw [if_pos ht, if_pos (by rw [isS_tS]; decide)]
 exact ((h m (by omega)).up _).and (.inl rfl)
theorem T_list {r : List Tok} {d n : Nat} {x : Exp} (h : Tells (.many sRb) (tS sLb :: r) d x n) : Tells .prime (tS sLb :: r) d (.mk oList oNo x.kids) n := by
 obtain ⟨N, h⟩ := h; refine ⟨N + 1, fun m hm => ?_⟩; obtain ⟨m, rfl⟩ : ∃ k, m = k + 1 := ⟨m - 1, by omega⟩
 simp only [parX]; rw [if_neg (by decide), if_neg (by decide), if_neg (by decide), if_pos (by rw [isS_tS]; decide)]
 exact (h m (by omega)).and (.inl rfl)
theorem T_paren {r : List Tok} {d n : Nat} {x : Exp} (h : Tells .choice r (d + 1) x n) (h2 : isS (r.drop n) sRp = true) : Tells .prime (tS sLp :: r) d x (1 + n + 1) := by
 obtain ⟨N, h⟩ := h; refine ⟨N + 1, fun m hm => ?_⟩; obtain ⟨m, rfl⟩ : ∃ k, m = k + 1 := ⟨m - 1, by omega⟩
 simp only [parX]; rw [if_neg (by decide), if_neg (by decide), if_neg (by decide), if_neg (by rw [isS_tS]; decide), if_pos (by rw [isS_tS]; decide)]
 split
 ·exact .deep
 ·refine ((h m (by omega)).up _).and ?_
  have e : (tS sLp :: r).drop (1 + n) = r.drop n := by rw [Nat.add_comm]; rfl
  rw [e, if_neg (by rw [h2]; decide)]
  exact .inl rfl
theorem T_many0 {o s : ByteArray} {r : List Tok} {d : Nat} (h : isS r s = true) : Tells (.many s) (tS o :: r) d (.mk oNo oNo []) 2 := by
 refine ⟨1, fun m hm => ?_⟩; obtain ⟨m, rfl⟩ : ∃ k, m = k + 1 := ⟨m - 1, by omega⟩
 rw [parX]; split
 ·exact .deep
 ·simp only [List.drop_succ_cons, List.drop_zero]
  rw [if_pos h]; exact .inl rfl
theorem T_many {o s : ByteArray} {r : List Tok} {d n : Nat} {x : Exp} (h : isS r s = false) (h2 : Tells (.mloop s []) r d x n) : Tells (.many s) (tS o :: r) d x (1 + n) := by
 obtain ⟨N, h2⟩ := h2; refine ⟨N + 1, fun m hm => ?_⟩; obtain ⟨m, rfl⟩ : ∃ k, m = k + 1 := ⟨m - 1, by omega⟩
 rw [parX]; split
 ·exact .deep
 ·simp only [List.drop_succ_cons, List.drop_zero]
  rw [if_neg (by rw [h]; decide)]
  exact (h2 m (by omega)).up _
theorem T_mgo {s : ByteArray} {l : List Exp} {r : List Tok} {d k n : Nat} {a x : Exp} (h : Tells .choice r (d + 1) a k) (hc : isS (r.drop k) sComma = true) (h2 : Tells (.mloop s (l ++ [a])) (r.drop (k + 1)) d x n) : Tells (.mloop s l) r d x (k + 1 + n) := by
 obtain ⟨N, h⟩ := h; obtain ⟨N2, h2⟩ := h2; refine ⟨N + N2 + 1, fun m hm => ?_⟩; obtain ⟨m, rfl⟩ : ∃ k, m = k + 1 := ⟨m - 1, by omega⟩
 rw [parX]; refine (h m (by omega)).and ?_
 rw [if_pos hc]; exact (h2 m (by omega)).up _
theorem T_mend {s : ByteArray} {l : List Exp} {r : List Tok} {d k : Nat} {a : Exp} (h : Tells .choice r (d + 1) a k) (hc : isS (r.drop k) sComma = false) (h2 : isS (r.drop k) s = true) : Tells (.mloop s l) r d (.mk oNo oNo (l ++ [a])) (k + 1) := by
 obtain ⟨N, h⟩ := h; refine ⟨N + 1, fun m hm => ?_⟩; obtain ⟨m, rfl⟩ : ∃ k, m = k + 1 := ⟨m - 1, by omega⟩
 rw [parX]; refine (h m (by omega)).and ?_
 rw [if_neg (by rw [hc]; decide), if_pos h2]
 exact .inl rfl
end Go.Proofs.YthbhknfhmkhfgaaGreatDoor
namespace Go.Proofs.YthbhknfhmkhfgaaGreatDoor
set_option maxRecDepth 100000
set_option maxHeartbeats 20000000
open Go.RowKit Go.Tab
theorem rhex_some (c d : Nat) (w : World) (hc : c < 256) (h : hexV c = some d) : Calls Tryz.prog 149 #[.int .u8 (c : Int)] w fun e w' => e = .returned (.int .i64 (d : Int)) /\ w = w' := by
 unfold hexV at h
 by_cases h1 : 48 <= c /\ c <= 57
 ·rw [if_pos h1] at h
  obtain rfl : d = c - 48 := by cases h; rfl
  clear h; go_enter Tryz.func149, Tryz.ntmps149; go_wp2; go_ret; exact ⟨ret_num (by omega), rfl⟩
 rw [if_neg h1] at h
 by_cases h2 : 97 <= c /\ c <= 102
 ·rw [if_pos h2] at h
  obtain rfl : d = c - 87 := by cases h; rfl
  clear h h1; go_enter Tryz.func149, Tryz.ntmps149; go_wp2; go_ret; exact ⟨ret_num (by omega), rfl⟩
 rw [if_neg h2] at h
 by_cases h3 : 65 <= c /\ c <= 70
 ·rw [if_pos h3] at h
  obtain rfl : d = c - 55 := by cases h; rfl
  clear h h1 h2; go_enter Tryz.func149, Tryz.ntmps149; go_wp2; go_ret; exact ⟨ret_num (by omega), rfl⟩
 ·rw [if_neg h3] at h; cases h
theorem rhex_none (c : Nat) (w : World) (hc : c < 256) (h : hexV c = none) : Calls Tryz.prog 149 #[.int .u8 (c : Int)] w fun e w' => e = .returned (.int .i64 (-1)) /\ w = w' := by
 have h4 : c < 48 \/ (58 <= c /\ c <= 64) \/ (71 <= c /\ c <= 96) \/ 103 <= c := by
  unfold hexV at h
  by_cases h1 : 48 <= c /\ c <= 57
  ·rw [if_pos h1] at h; cases h
  rw [if_neg h1] at h
  by_cases h2 : 97 <= c /\ c <= 102
  ·rw [if_pos h2] at h; cases h
  rw [if_neg h2] at h
  by_cases h3 : 65 <= c /\ c <= 70
  ·rw [if_pos h3] at h; cases h
  omega
 clear h; rcases h4 with h4 | h4 | h4 | h4
 all_goals
  go_enter Tryz.func149, Tryz.ntmps149; go_wp2; go_ret; exact ⟨rfl, rfl⟩
theorem ret_two {a b : Int} {q : Nat × Nat} (h1 : a = q.1) (h2 : b = q.2) : Ending.returned (.tuple #[.int .i64 a, .int .i64 b]) = .returned (.tuple #[.int .i64 (q.1 : Int), .int .i64 (q.2 : Int)]) := by rw [h1, h2]
theorem bs_fact {s : ByteArray} {k c : Nat} {r : List Nat} (h : (bs s).drop k = c :: r) : ∃ h' : k < s.size, (s[k]'h').toNat = c := by
 obtain ⟨h1, h2⟩ := bs_at h (j := 0) (by simp)
 exact ⟨h1, h2⟩
theorem runit_any (s : ByteArray) (k : Nat) (w : World) (hk : k <= s.size) (hs : s.size <= 1048576) :
  Calls Tryz.prog 126 #[.string s, .int .i64 (k : Int)] w fun e w' => e = .returned (.tuple #[.int .i64 ((unitQ ((bs s).drop k)).1 : Int), .int .i64 ((unitQ ((bs s).drop k)).2 : Int)]) /\ w = w' := by
 go_enter Tryz.func126, Tryz.ntmps126; go_wp2_with fail; go_loop [6, 7] (fun n i => ∃ (j m : Nat), j <= 4 /\ n = .int .i64 m /\ i = .int .i64 j /\ m < 16 ^ j /\ k + j <= s.size /\ unitF (4 - j) m ((bs s).drop (k + j)) = unitQ ((bs s).drop k)) (fun _ i => 4 - (intOf i).toNat)
 case atStart => exact ⟨0, 0, by omega, rfl, rfl, by simp, hk, rfl⟩
 case round =>
  obtain ⟨j, m, hj, rfl, rfl, hm, hkj, hu⟩ := hrel
  by_cases hj4 : j < 4
  ·obtain ⟨hm1, hm2⟩ := lim4 hj4 hm
   obtain ⟨i, hi⟩ : ∃ i, 4 - j = i + 1 := ⟨3 - j, by omega⟩
   rw [hi] at hu
   cases hr : (bs s).drop (k + j) with
   | nil =>
    rw [hr, unitF] at hu; have HU := Lib.hid hu; have hz := drop_nil_iff hkj hr; have hz' : s.size <= k + j := by omega
    clear hu hr hi hm2 hm hz; go_wp2; go_ret2
    exact ⟨ret_two (by rw [<- HU.out]; rfl) (by rw [<- HU.out]; rfl), rfl⟩
   | cons c r =>
    obtain ⟨hd1, hd2⟩ := drop_cons hr; rw [bs_length] at hd2; have HR := Lib.hid (show (bs s).drop (k + (j + 1)) = r from hd1); have hc : c < 256 := bs_lt c (List.mem_of_mem_drop (by rw [hr]; simp))
    obtain ⟨hlt, hbv⟩ := bs_fact hr; have hbd : (0 : Int) <= (k : Int) + (j : Int) /\ (k : Int) + (j : Int) < (s.size : Int) := by omega
    rw [hr] at hu; simp only [unitF] at hu; clear hd1
    cases hx : hexV c with
    | none =>
     rw [hx] at hu; have HU := Lib.hid hu; have hH := fun W => rhex_none c W hc hx; clear hu hr hm2 hm hi hx; go_wp2_with fail; refine (hH _).mono ?_; rintro e w1 ⟨rfl, rfl⟩; go_wp2; go_ret2
     exact ⟨ret_two (by rw [<- HU.out]; rfl) (by rw [<- HU.out]; rfl), rfl⟩
    | some d =>
     rw [hx] at hu; have HU := Lib.hid hu; have hH := fun W => rhex_some c d W hc hx
     have hd16 : d < 16 := by
      unfold hexV at hx; repeat' (split at hx)
      all_goals first | (cases hx; omega) | cases hx
     have hx2 := Lib.hid (hm2 d hd16); have HI := Lib.hid hi; clear hu hr hm2 hm hi hx; go_wp2_with fail; refine (hH _).mono ?_; rintro e w1 ⟨rfl, rfl⟩; go_wp2; go_round
     case rel => exact ⟨j + 1, m * 16 + d, by omega, by go_num, by go_num, hx2.out, by omega, by rw [show 4 - (j + 1) = i by have := HI.out; omega, HR.out]; exact HU.out⟩
     case measure => simp [intOf]; omega
  ·obtain rfl : j = 4 := by omega
   simp only [Nat.sub_self, unitF] at hu; have HU := Lib.hid hu; clear hu hm; go_wp2; go_ret2
   exact ⟨ret_two (by rw [<- HU.out]) (by rw [<- HU.out]; rfl), rfl⟩
theorem lay6 {k n : Nat} (h : k + 6 < n) (hn : n <= 1048576) : IntKind.i64.wrap ((k : Int) + 6) = (k : Int) + 6 /\ (0 <= (k : Int) + 6 /\ (k : Int) + 6 < (n : Int)) /\ ((k : Int) + 6).toNat = k + 6 :=
 ⟨IntWalk.i64_in _ (by omega), by omega, by omega⟩
theorem lay7 {k n : Nat} (h : k + 6 + 1 < n) (hn : n <= 1048576) : IntKind.i64.wrap ((k : Int) + 6 + 1) = (k : Int) + 6 + 1 /\ (0 <= (k : Int) + 6 + 1 /\ (k : Int) + 6 + 1 < (n : Int)) /\ ((k : Int) + 6 + 1).toNat = k + 6 + 1 :=
 ⟨IntWalk.i64_in _ (by omega), by omega, by omega⟩
def partV (q : PartR) : Value := .agg #[.string (strOf (un q.1)), .int .i64 (q.2.1 : Int), .int .i64 (q.2.2 : Int)]
theorem rcoded_any (s : ByteArray) (k : Nat) (w : World) (hk : k + 2 <= s.size) (hs : s.size <= 1048576) :
  Calls Tryz.prog 106 #[.string s, .int .i64 (k : Int)] w fun e w' => e = .returned (partV (codedQ ((bs s).drop (k + 2)))) /\ Below w.heap.size w w' := by
 have h4 := fun W => runit_any s (k + 2) W hk (by omega)
 obtain ⟨r, hr⟩ : ∃ r, r = (bs s).drop (k + 2) := ⟨_, rfl⟩; rw [<- hr] at h4 ⊢; simp only [Int.natCast_add, Int.cast_ofNat_Int] at h4
 by_cases hu : (unitQ r).2 = 0
 ·obtain ⟨hv1, hv2⟩ := unitQ_val hu
  obtain ⟨n, hn⟩ : ∃ n, n = (unitQ r).1 := ⟨_, rfl⟩; have hlen : k + 6 <= s.size := by rw [hr] at hv1; simp [bs_length] at hv1; omega
  rw [<- hn] at hv2 h4; rw [hu] at h4; simp only [Int.cast_ofNat_Int] at h4
  by_cases h1 : 56320 <= n /\ n <= 57343
  ·have HC : Hid (codedQ r = errR 3) := Lib.hid (by unfold codedQ; rw [if_neg (by simp [hu]), if_pos (by rw [<- hn]; exact h1)])
   have b1 : decide ((56320 : Int) <= (n : Int)) = true := by simp; omega
   have b2 : decide ((n : Int) <= 57343) = true := by simp; omega
   clear hu hn hr hv1 h1 hv2; go_enter Tryz.func106, Tryz.ntmps106; go_wp2_with fail; refine (h4 _).mono ?_; rintro e w1 ⟨rfl, rfl⟩; go_wp2; refine bodyPost_ret (v := partV (errR 3)) (by simp [results, Tryz.results106, go_sem, partV, errR, un, strOf]) rfl ⟨by rw [HC.out], ?_⟩
   (repeat' first | with_reducible refine Below.setCell ?_ ?_ _ | with_reducible refine Below.alloc ?_ ?_ _ | with_reducible refine Below.drew ?_ | with_reducible refine below_drewN ?_ _ | with_reducible assumption | with_reducible exact Below.refl _ _ | (simp only [World.size_alloc, World.size_setCell, World.size_drew]; first | done | omega) | omega)
  ·by_cases h2 : n < 55296 \/ 57343 < n
   ·have HC : Hid (codedQ r = (putN n, 6, 0)) := Lib.hid (by unfold codedQ; rw [if_neg (by simp [hu]), if_neg (by rw [<- hn]; exact h1), if_pos (by rw [<- hn]; exact h2), <- hn])
    have hsc : isScI (n : Int) = true := by rw [isScI_nat, isSc_iff]; omega
    have hP := fun W => rPut_any (n : Int) W; unfold rputL at hP; rw [if_pos hsc, Int.toNat_natCast] at hP
    have h2' : (decide ((56320 : Int) <= (n : Int)) = false /\ decide ((n : Int) < 55296) = true) \/ (decide ((56320 : Int) <= (n : Int)) = true /\ decide ((n : Int) <= 57343) = false /\ decide ((n : Int) < 55296) = false /\ decide ((57343 : Int) < (n : Int)) = true) := by
     rcases h2 with h2 | h2
     ·exact .inl ⟨by simp; omega, by simp; omega⟩
     ·exact .inr ⟨by simp; omega, by simp; omega, by simp; omega, by simp; omega⟩
    clear hu hn hr hv1 h2 hv2 hsc h1; obtain ⟨S, hS⟩ : ∃ S, S = strOf (putU n) := ⟨_, rfl⟩; rw [<- hS] at hP; have HS := Lib.hid hS; clear hS; rcases h2' with ⟨b1, b2⟩ | ⟨b1, b2, b3, b4⟩
    all_goals
     go_enter Tryz.func106, Tryz.ntmps106; go_wp2_with fail; refine (h4 _).mono ?_; rintro e w1 ⟨rfl, rfl⟩; go_wp2_with fail; refine (hP _).mono ?_; rintro e w2 ⟨rfl, hb2⟩; have hz2 := hb2.size; simp only [World.size_alloc] at hz2; have hx2 := (Cells.new w #[.string ⟨#[]⟩, .int .i64 0, .int .i64 0] 87).below hb2 (by simp)
     have hx2c0 := hx2.cell 0 _ rfl; have hx2f0 := hx2.frozen 0; have hx2c1 := hx2.cell 1 _ rfl; have hx2f1 := hx2.frozen 1; have hx2c2 := hx2.cell 2 _ rfl; have hx2f2 := hx2.frozen 2; have hb3 : Below w.heap.size w w2 := ((Below.refl _ w).alloc (Nat.le_refl _) _).trans (hb2.mono (by simp))
     go_wp2; refine bodyPost_ret (v := .agg #[.string S, .int .i64 6, .int .i64 0]) (by simp [results, Tryz.results106, go_sem, *]) rfl ⟨by rw [HC.out, HS.out]; rfl, ?_⟩
     (repeat' first | with_reducible refine Below.setCell ?_ ?_ _ | with_reducible refine Below.alloc ?_ ?_ _ | with_reducible refine Below.drew ?_ | with_reducible refine below_drewN ?_ _ | with_reducible assumption | with_reducible exact Below.refl _ _ | (simp only [World.size_alloc, World.size_setCell, World.size_drew]; first | done | omega) | omega)
   ·have HC0 : Hid (codedQ r = lowQ n (r.drop 4)) := Lib.hid (by unfold codedQ; rw [if_neg (by simp [hu]), if_neg (by rw [<- hn]; exact h1), if_neg (by rw [<- hn]; exact h2), <- hn])
    have hr4 : r.drop 4 = (bs s).drop (k + 6) := by rw [hr, List.drop_drop]
    have hn3 : 55296 <= n /\ n <= 56319 := by omega
    have b1 : decide ((56320 : Int) <= (n : Int)) = false := by simp; omega
    have b2 : decide ((n : Int) < 55296) = false := by simp; omega
    have b3 : decide ((57343 : Int) < (n : Int)) = false := by simp; omega
    have HN3 := Lib.hid hn3; have HR := Lib.hid hr; clear hu hn hv1 h1 h2 hv2 hr hn3
    cases hq : (bs s).drop (k + 6) with
    | nil =>
     have HC : Hid (codedQ r = errR 2) := Lib.hid (by rw [HC0.out, hr4, hq]; rfl)
     have hz := drop_nil_iff hlen hq; have hz' : s.size <= k + 6 := by omega
     clear hq hr4 hz; go_enter Tryz.func106, Tryz.ntmps106; go_wp2_with fail; refine (h4 _).mono ?_; rintro e w1 ⟨rfl, rfl⟩; go_wp2_with fail; clear b1 b2 b3 h4; refine wp_loop_rounds 1 ?_; rw [rounds_succ]; go_wp2; refine bodyPost_ret (v := partV (errR 2)) (by simp [results, Tryz.results106, go_sem, partV, errR, un, strOf]) rfl ⟨by rw [HC.out], ?_⟩
     (repeat' first | with_reducible refine Below.setCell ?_ ?_ _ | with_reducible refine Below.alloc ?_ ?_ _ | with_reducible refine Below.drew ?_ | with_reducible refine below_drewN ?_ _ | with_reducible assumption | with_reducible exact Below.refl _ _ | (simp only [World.size_alloc, World.size_setCell, World.size_drew]; first | done | omega) | omega)
    | cons c t =>
     obtain ⟨hlt, hbv⟩ := bs_fact hq; have hc : c < 256 := bs_lt c (List.mem_of_mem_drop (by rw [hq]; simp))
     have hlen2 : k + 6 < s.size := hlt
     by_cases hc92 : c = 92
     ·subst hc92
      obtain ⟨hd, hd2⟩ := drop_cons hq; rw [bs_length] at hd2; have hrt : r.drop 4 = 92 :: t := by rw [hr4, hq]
      cases ht : t with
      | nil =>
       have HC : Hid (codedQ r = errR 2) := Lib.hid (by rw [HC0.out, hrt, ht]; rfl)
       have hz := drop_nil_iff (show k + 6 + 1 <= s.size by omega) (by rw [<- ht]; exact hd)
       have hz' : s.size <= k + 6 + 1 := by omega
       clear hq hr4 hrt ht hd hz; go_enter Tryz.func106, Tryz.ntmps106; go_wp2_with fail; refine (h4 _).mono ?_; rintro e w1 ⟨rfl, rfl⟩; go_wp2_with fail; clear b1 b2 b3 h4; refine wp_loop_rounds 2 ?_; rw [rounds_succ]; go_wp2_with fail; obtain ⟨g1, g2, g3⟩ := lay6 hlen2 hs; go_region
       clear g1 g2 g3; go_wp2_with fail; rw [rounds_succ]; go_wp2; refine bodyPost_ret (v := partV (errR 2)) (by simp [results, Tryz.results106, go_sem, partV, errR, un, strOf]) rfl ⟨by rw [HC.out], ?_⟩
       (repeat' first | with_reducible refine Below.setCell ?_ ?_ _ | with_reducible refine Below.alloc ?_ ?_ _ | with_reducible refine Below.drew ?_ | with_reducible refine below_drewN ?_ _ | with_reducible assumption | with_reducible exact Below.refl _ _ | (simp only [World.size_alloc, World.size_setCell, World.size_drew]; first | done | omega) | omega)
      | cons d u =>
       subst ht; obtain ⟨hlt2, hbv2⟩ := bs_fact hd; have hdl : d < 256 := bs_lt d (List.mem_of_mem_drop (by rw [hd]; simp))
       obtain ⟨he, he2⟩ := drop_cons hd; rw [bs_length] at he2; have hlen3 : k + 6 + 1 < s.size := hlt2
       by_cases hd117 : d = 117
       ·subst hd117
        have hF := fun W => runit_any s (k + 8) W (by omega) (by omega)
        rw [show (bs s).drop (k + 8) = u from he] at hF; simp only [Int.natCast_add, Int.cast_ofNat_Int] at hF; clear hq hr4 he hd; obtain ⟨x, hx⟩ : ∃ x, x = unitQ u := ⟨_, rfl⟩; rw [<- hx] at hF; obtain ⟨m, x2⟩ := x; simp only at hF
        by_cases hm : x2 = 0
        ·subst hm
         have hm0 : (unitQ u).2 = 0 := by rw [<- hx]
         obtain ⟨hv3, hv4⟩ := unitQ_val hm0; have hmm : m = (unitQ u).1 := by rw [<- hx]
         rw [<- hmm] at hv4
         by_cases hlow : m < 56320 \/ 57343 < m
         ·have HC : Hid (codedQ r = errR 3) := Lib.hid (by rw [HC0.out, hrt]; simp only [lowQ]; rw [if_neg (by simp), if_neg (by simp), if_neg (by simp [hm0]), if_pos (by rw [<- hmm]; exact hlow)])
          have hlow2 : (decide ((m : Int) < 56320) = true) \/ (decide ((m : Int) < 56320) = false /\ decide ((57343 : Int) < (m : Int)) = true) := by
           rcases hlow with hlow | hlow
           ·exact .inl (by simp; omega)
           ·exact .inr ⟨by simp; omega, by simp; omega⟩
          have HLOW := Lib.hid hlow2; clear hrt hm0 hmm hlow hlow2 hv4 hv3 hx; go_enter Tryz.func106, Tryz.ntmps106; go_wp2_with fail; refine (h4 _).mono ?_; rintro e w1 ⟨rfl, rfl⟩; go_wp2_with fail; clear b1 b2 b3 h4; refine wp_loop_rounds 3 ?_; rw [rounds_succ]; go_wp2_with fail; obtain ⟨g1, g2, g3⟩ := lay6 hlen2 hs; go_region
          clear g1 g2 g3; go_wp2_with fail; rw [rounds_succ]; go_wp2_with fail; obtain ⟨g1, g2, g3⟩ := lay7 hlen3 hs; go_region
          clear g1 g2 g3; go_wp2_with fail; rw [rounds_succ]; go_wp2_with fail; refine (hF _).mono ?_; rintro e w2 ⟨rfl, rfl⟩; clear hF; rcases HLOW.out with hlow | ⟨hlow, hlow2⟩
          all_goals
           go_wp2; refine bodyPost_ret (v := partV (errR 3)) (by simp [results, Tryz.results106, go_sem, partV, errR, un, strOf]) rfl ⟨by rw [HC.out], ?_⟩
           (repeat' first | with_reducible refine Below.setCell ?_ ?_ _ | with_reducible refine Below.alloc ?_ ?_ _ | with_reducible refine Below.drew ?_ | with_reducible refine below_drewN ?_ _ | with_reducible assumption | with_reducible exact Below.refl _ _ | (simp only [World.size_alloc, World.size_setCell, World.size_drew]; first | done | omega) | omega)
         ·obtain ⟨x, hx9⟩ : ∃ x, x = 65536 + (n - 55296) * 1024 + (m - 56320) := ⟨_, rfl⟩
          have HC : Hid (codedQ r = (putN x, 12, 0)) := Lib.hid (by rw [HC0.out, hrt]; simp only [lowQ]; rw [if_neg (by simp), if_neg (by simp), if_neg (by simp [hm0]), if_neg (by rw [<- hmm]; exact hlow), hx9, hmm])
          have hn3 := HN3.out; have hsc : isScI (x : Int) = true := by rw [isScI_nat, isSc_iff]; omega
          have hP := fun W => rPut_any (x : Int) W; unfold rputL at hP; rw [if_pos hsc, Int.toNat_natCast] at hP; obtain ⟨S, hS⟩ : ∃ S, S = strOf (putU x) := ⟨_, rfl⟩; rw [<- hS] at hP; have HS := Lib.hid hS; have E1 := Lib.hid (And.intro (show (0 : Int) <= (n : Int) - 55296 /\ (n : Int) - 55296 <= 1023 by omega) (And.intro (show (0 : Int) <= (m : Int) /\ (m : Int) <= 65535 by omega) (show (65536 : Int) + ((n : Int) - 55296) * 1024 + (m : Int) - 56320 = (x : Int) by omega)))
          have HD := Lib.hid (And.intro (show decide ((m : Int) < 56320) = false by simp; omega) (show decide ((57343 : Int) < (m : Int)) = false by simp; omega))
          clear hrt hm0 hmm hlow hv4 hv3 hx hx9 hS hsc hn3; go_enter Tryz.func106, Tryz.ntmps106; go_wp2_with fail; refine (h4 _).mono ?_; rintro e w1 ⟨rfl, rfl⟩; go_wp2_with fail; clear b1 b2 b3 h4; refine wp_loop_rounds 3 ?_; rw [rounds_succ]; go_wp2_with fail; obtain ⟨g1, g2, g3⟩ := lay6 hlen2 hs; go_region
          clear g1 g2 g3; go_wp2_with fail; rw [rounds_succ]; go_wp2_with fail; obtain ⟨g1, g2, g3⟩ := lay7 hlen3 hs; go_region
          clear g1 g2 g3; go_wp2_with fail; rw [rounds_succ]; go_wp2_with fail; refine (hF _).mono ?_; rintro e w2 ⟨rfl, rfl⟩; clear hF; obtain ⟨d1, d2⟩ := HD.out; obtain ⟨e1, e2, hxi⟩ := E1.out; go_wp2_with fail; refine (hP _).mono ?_; rintro e w2 ⟨rfl, hb2⟩; clear d1 d2 e1 e2 hxi hP; have hz2 := hb2.size; simp only [World.size_alloc, World.size_drew] at hz2; have hx2 := ((((Cells.new w #[.string ⟨#[]⟩, .int .i64 0, .int .i64 0] 87).alloc (.cells #[.int .u8 92, .int .u8 117] 5)).drew.alloc (.cells #[.int .u8 92, .int .u8 117] 5)).drew).below hb2 (by simp; omega)
          have hx2c0 := hx2.cell 0 _ rfl; have hx2f0 := hx2.frozen 0; have hx2c1 := hx2.cell 1 _ rfl; have hx2f1 := hx2.frozen 1; have hx2c2 := hx2.cell 2 _ rfl; have hx2f2 := hx2.frozen 2; have hb3 : Below w.heap.size w w2 := ((((((Below.refl _ w).alloc (Nat.le_refl _) _).alloc (by simp) _).drew).alloc (by simp; omega) _).drew).trans (hb2.mono (by simp; omega))
          go_wp2; refine bodyPost_ret (v := .agg #[.string S, .int .i64 12, .int .i64 0]) (by simp [results, Tryz.results106, go_sem, *]) rfl ⟨by rw [HC.out, HS.out]; rfl, ?_⟩
          (repeat' first | with_reducible refine Below.setCell ?_ ?_ _ | with_reducible refine Below.alloc ?_ ?_ _ | with_reducible refine Below.drew ?_ | with_reducible refine below_drewN ?_ _ | with_reducible assumption | with_reducible exact Below.refl _ _ | (simp only [World.size_alloc, World.size_setCell, World.size_drew]; first | done | omega) | omega)
        ·have hm0 : (unitQ u).2 ≠ 0 := by rw [<- hx]; exact hm
         have HC : Hid (codedQ r = errR x2) := Lib.hid (by rw [HC0.out, hrt]; simp only [lowQ]; rw [if_neg (by simp), if_neg (by simp), if_pos hm0, <- hx])
         have hbe : ((x2 : Int) != 0) = true := by rw [bne_iff_ne]; omega
         clear hrt hm0 hm hx; go_enter Tryz.func106, Tryz.ntmps106; go_wp2_with fail; refine (h4 _).mono ?_; rintro e w1 ⟨rfl, rfl⟩; go_wp2_with fail; clear b1 b2 b3 h4; refine wp_loop_rounds 3 ?_; rw [rounds_succ]; go_wp2_with fail; obtain ⟨g1, g2, g3⟩ := lay6 hlen2 hs; go_region
         clear g1 g2 g3; go_wp2_with fail; rw [rounds_succ]; go_wp2_with fail; obtain ⟨g1, g2, g3⟩ := lay7 hlen3 hs; go_region
         clear g1 g2 g3; go_wp2_with fail; rw [rounds_succ]; go_wp2_with fail; refine (hF _).mono ?_; rintro e w2 ⟨rfl, rfl⟩; go_wp2; refine bodyPost_ret (v := partV (errR x2)) (by simp [results, Tryz.results106, go_sem, partV, errR, un, strOf]) rfl ⟨by rw [HC.out], ?_⟩
         (repeat' first | with_reducible refine Below.setCell ?_ ?_ _ | with_reducible refine Below.alloc ?_ ?_ _ | with_reducible refine Below.drew ?_ | with_reducible refine below_drewN ?_ _ | with_reducible assumption | with_reducible exact Below.refl _ _ | (simp only [World.size_alloc, World.size_setCell, World.size_drew]; first | done | omega) | omega)
       ·have HC : Hid (codedQ r = errR 3) := Lib.hid (by rw [HC0.out, hrt]; simp only [lowQ]; rw [if_neg (by simp), if_pos (by simpa using hd117)])
        have hbd : ((d : Int) != 117) = true := by rw [bne_iff_ne]; omega
        clear hq hr4 hrt hd he hd117; go_enter Tryz.func106, Tryz.ntmps106; go_wp2_with fail; refine (h4 _).mono ?_; rintro e w1 ⟨rfl, rfl⟩; go_wp2_with fail; clear b1 b2 b3 h4; refine wp_loop_rounds 2 ?_; rw [rounds_succ]; go_wp2_with fail; obtain ⟨g1, g2, g3⟩ := lay6 hlen2 hs; go_region
        clear g1 g2 g3; go_wp2_with fail; rw [rounds_succ]; go_wp2_with fail; obtain ⟨g1, g2, g3⟩ := lay7 hlen3 hs; go_region
        clear g1 g2 g3; go_wp2; refine bodyPost_ret (v := partV (errR 3)) (by simp [results, Tryz.results106, go_sem, partV, errR, un, strOf]) rfl ⟨by rw [HC.out], ?_⟩
        (repeat' first | with_reducible refine Below.setCell ?_ ?_ _ | with_reducible refine Below.alloc ?_ ?_ _ | with_reducible refine Below.drew ?_ | with_reducible refine below_drewN ?_ _ | with_reducible assumption | with_reducible exact Below.refl _ _ | (simp only [World.size_alloc, World.size_setCell, World.size_drew]; first | done | omega) | omega)
     ·have HC : Hid (codedQ r = errR 3) := Lib.hid (by rw [HC0.out, hr4, hq]; simp only [lowQ]; rw [if_pos (by simpa using hc92)])
      have hbc : ((c : Int) != 92) = true := by rw [bne_iff_ne]; omega
      clear hq hr4 hc92; go_enter Tryz.func106, Tryz.ntmps106; go_wp2_with fail; refine (h4 _).mono ?_; rintro e w1 ⟨rfl, rfl⟩; go_wp2_with fail; clear b1 b2 b3 h4; refine wp_loop_rounds 1 ?_; rw [rounds_succ]; go_wp2_with fail; obtain ⟨g1, g2, g3⟩ := lay6 hlen2 hs; go_region
      clear g1 g2 g3; go_wp2; refine bodyPost_ret (v := partV (errR 3)) (by simp [results, Tryz.results106, go_sem, partV, errR, un, strOf]) rfl ⟨by rw [HC.out], ?_⟩
      (repeat' first | with_reducible refine Below.setCell ?_ ?_ _ | with_reducible refine Below.alloc ?_ ?_ _ | with_reducible refine Below.drew ?_ | with_reducible refine below_drewN ?_ _ | with_reducible assumption | with_reducible exact Below.refl _ _ | (simp only [World.size_alloc, World.size_setCell, World.size_drew]; first | done | omega) | omega)
 ·have HC : Hid (codedQ r = errR (unitQ r).2) := Lib.hid (by unfold codedQ; rw [if_pos (by simpa using hu)])
  obtain ⟨x, hx⟩ : ∃ x, x = unitQ r := ⟨_, rfl⟩; rw [<- hx] at h4 hu HC; obtain ⟨x1, x2⟩ := x; simp only at h4 hu HC; have hbe : ((x2 : Int) != 0) = true := by rw [bne_iff_ne]; omega
  have HR := Lib.hid hr; clear hu hx hr; go_enter Tryz.func106, Tryz.ntmps106; go_wp2_with fail; refine (h4 _).mono ?_; rintro e w1 ⟨rfl, rfl⟩; go_wp2; refine bodyPost_ret (v := partV (errR x2)) (by simp [results, Tryz.results106, go_sem, partV, errR, un, strOf]) rfl ⟨by rw [HC.out], ?_⟩
  (repeat' first | with_reducible refine Below.setCell ?_ ?_ _ | with_reducible refine Below.alloc ?_ ?_ _ | with_reducible refine Below.drew ?_ | with_reducible refine below_drewN ?_ _ | with_reducible assumption | with_reducible exact Below.refl _ _ | (simp only [World.size_alloc, World.size_setCell, World.size_drew]; first | done | omega) | omega)
theorem bs_un {l : List Nat} (h : Byt l) : bs (strOf (un l)) = l := by
 rw [bs_strOf]; unfold un; rw [List.map_map]
 conv => rhs; rw [<- List.map_id l]
 refine List.map_congr_left fun x hx => ?_; have := h x hx; simp only [Function.comp, UInt8.toNat_ofNat', id]; omega
theorem ext_str (s : ByteArray) (a b : Nat) : s.extract a b = strOf (un (((bs s).drop a).take (b - a))) := by
 refine bs_inj ?_; rw [bs_un (fun x hx => bs_lt x (List.mem_of_mem_drop (List.mem_of_mem_take hx)))]; rw [bs_extract, List.drop_take]
theorem rpart_any (s : ByteArray) (k : Nat) (w : World) (hk : k <= s.size) (hs : s.size <= 1048576) :
  Calls Tryz.prog 81 #[.string s, .int .i64 (k : Int)] w fun e w' => e = .returned (partV (partQ ((bs s).drop k))) /\ Below w.heap.size w w' := by
 cases hq : (bs s).drop k with
 | nil =>
  have HC : Hid (partQ [] = errR 2) := Lib.hid rfl; have hz := drop_nil_iff hk hq; have hz' : s.size <= k := by omega
  clear hq hz; go_enter Tryz.func81, Tryz.ntmps81; go_wp2; refine bodyPost_ret (v := partV (errR 2)) (by simp [results, Tryz.results81, go_sem, partV, errR, un, strOf]) rfl ⟨by rw [HC.out], ?_⟩
  (repeat' first | with_reducible refine Below.setCell ?_ ?_ _ | with_reducible refine Below.alloc ?_ ?_ _ | with_reducible refine Below.drew ?_ | with_reducible refine below_drewN ?_ _ | with_reducible assumption | with_reducible exact Below.refl _ _ | (simp only [World.size_alloc, World.size_setCell, World.size_drew]; first | done | omega) | omega)
 | cons c r =>
  obtain ⟨hlt, hbv⟩ := bs_fact hq; have hlt' : k < s.size := hlt; have hc : c < 256 := bs_lt c (List.mem_of_mem_drop (by rw [hq]; simp))
  by_cases h32 : c < 32
  ·have HC : Hid (partQ (c :: r) = errR 3) := Lib.hid (by simp [partQ, h32])
   clear hq; go_enter Tryz.func81, Tryz.ntmps81; go_wp2; refine bodyPost_ret (v := partV (errR 3)) (by simp [results, Tryz.results81, go_sem, partV, errR, un, strOf]) rfl ⟨by rw [HC.out], ?_⟩
   (repeat' first | with_reducible refine Below.setCell ?_ ?_ _ | with_reducible refine Below.alloc ?_ ?_ _ | with_reducible refine Below.drew ?_ | with_reducible refine below_drewN ?_ _ | with_reducible assumption | with_reducible exact Below.refl _ _ | (simp only [World.size_alloc, World.size_setCell, World.size_drew]; first | done | omega) | omega)
  have h32' : 32 <= c := by omega
  by_cases h92 : c = 92
  ·subst h92
   obtain ⟨hd1, hd2⟩ := drop_cons hq; rw [bs_length] at hd2; clear h32 h32'
   cases ht : r with
   | nil =>
    have HC : Hid (partQ [92] = errR 2) := Lib.hid rfl; have hz := drop_nil_iff (show k + 1 <= s.size by omega) (by rw [<- ht]; exact hd1)
    have hz' : s.size <= k + 1 := by omega
    clear hq hd1 hz ht; go_enter Tryz.func81, Tryz.ntmps81; go_wp2; refine bodyPost_ret (v := partV (errR 2)) (by simp [results, Tryz.results81, go_sem, partV, errR, un, strOf]) rfl ⟨by rw [HC.out], ?_⟩
    (repeat' first | with_reducible refine Below.setCell ?_ ?_ _ | with_reducible refine Below.alloc ?_ ?_ _ | with_reducible refine Below.drew ?_ | with_reducible refine below_drewN ?_ _ | with_reducible assumption | with_reducible exact Below.refl _ _ | (simp only [World.size_alloc, World.size_setCell, World.size_drew]; first | done | omega) | omega)
   | cons d u =>
    subst ht; obtain ⟨hlt2, hbv2⟩ := bs_fact hd1; have hlt2' : k + 1 < s.size := hlt2; have hdl : d < 256 := bs_lt d (List.mem_of_mem_drop (by rw [hd1]; simp))
    have hcd := fun W => rcoded_any s k W (by omega) hs
    rw [show (bs s).drop (k + 2) = u from (drop_cons hd1).1] at hcd; have hbd : (0 : Int) <= (k : Int) + 1 /\ (k : Int) + 1 < (s.size : Int) := by omega
    obtain ⟨L, hL⟩ : ∃ L, L = 92 :: d :: u := ⟨_, rfl⟩; rw [<- hL]; have hx : s.extract (k + 1) (k + 2) = strOf (un [d]) := by rw [ext_str, show k + 2 - (k + 1) = 1 by omega, hd1]; rfl
    have HX := Lib.hid hx; clear hq hd1 hx
    by_cases hc34 : d = 34
    ·subst hc34
     have HC : Hid (partQ L = ([34], 2, 0)) := Lib.hid (by rw [hL]; rfl)
     clear hL; go_enter Tryz.func81, Tryz.ntmps81; go_wp2; refine bodyPost_ret (v := .agg #[.string (s.extract (k + 1) (k + 2)), .int .i64 2, .int .i64 0]) (by simp [results, Tryz.results81, go_sem]) rfl ⟨by rw [HC.out, HX.out]; rfl, ?_⟩
     (repeat' first | with_reducible refine Below.setCell ?_ ?_ _ | with_reducible refine Below.alloc ?_ ?_ _ | with_reducible refine Below.drew ?_ | with_reducible refine below_drewN ?_ _ | with_reducible assumption | with_reducible exact Below.refl _ _ | (simp only [World.size_alloc, World.size_setCell, World.size_drew]; first | done | omega) | omega)
    by_cases hc92 : d = 92
    ·subst hc92
     have HC : Hid (partQ L = ([92], 2, 0)) := Lib.hid (by rw [hL]; rfl)
     clear hL; go_enter Tryz.func81, Tryz.ntmps81; go_wp2; refine bodyPost_ret (v := .agg #[.string (s.extract (k + 1) (k + 2)), .int .i64 2, .int .i64 0]) (by simp [results, Tryz.results81, go_sem]) rfl ⟨by rw [HC.out, HX.out]; rfl, ?_⟩
     (repeat' first | with_reducible refine Below.setCell ?_ ?_ _ | with_reducible refine Below.alloc ?_ ?_ _ | with_reducible refine Below.drew ?_ | with_reducible refine below_drewN ?_ _ | with_reducible assumption | with_reducible exact Below.refl _ _ | (simp only [World.size_alloc, World.size_setCell, World.size_drew]; first | done | omega) | omega)
    by_cases hc47 : d = 47
    ·subst hc47
     have HC : Hid (partQ L = ([47], 2, 0)) := Lib.hid (by rw [hL]; rfl)
     clear hL; go_enter Tryz.func81, Tryz.ntmps81; go_wp2; refine bodyPost_ret (v := .agg #[.string (s.extract (k + 1) (k + 2)), .int .i64 2, .int .i64 0]) (by simp [results, Tryz.results81, go_sem]) rfl ⟨by rw [HC.out, HX.out]; rfl, ?_⟩
     (repeat' first | with_reducible refine Below.setCell ?_ ?_ _ | with_reducible refine Below.alloc ?_ ?_ _ | with_reducible refine Below.drew ?_ | with_reducible refine below_drewN ?_ _ | with_reducible assumption | with_reducible exact Below.refl _ _ | (simp only [World.size_alloc, World.size_setCell, World.size_drew]; first | done | omega) | omega)
    by_cases hc98 : d = 98
    ·subst hc98
     have HC : Hid (partQ L = ([8], 2, 0)) := Lib.hid (by rw [hL]; rfl)
     clear hL; go_enter Tryz.func81, Tryz.ntmps81; go_wp2; refine bodyPost_ret (v := partV ([8], 2, 0)) (by simp [results, Tryz.results81, go_sem, partV, errR, un, strOf]) rfl ⟨by rw [HC.out], ?_⟩
     (repeat' first | with_reducible refine Below.setCell ?_ ?_ _ | with_reducible refine Below.alloc ?_ ?_ _ | with_reducible refine Below.drew ?_ | with_reducible refine below_drewN ?_ _ | with_reducible assumption | with_reducible exact Below.refl _ _ | (simp only [World.size_alloc, World.size_setCell, World.size_drew]; first | done | omega) | omega)
    by_cases hc102 : d = 102
    ·subst hc102
     have HC : Hid (partQ L = ([12], 2, 0)) := Lib.hid (by rw [hL]; rfl)
     clear hL; go_enter Tryz.func81, Tryz.ntmps81; go_wp2; refine bodyPost_ret (v := partV ([12], 2, 0)) (by simp [results, Tryz.results81, go_sem, partV, errR, un, strOf]) rfl ⟨by rw [HC.out], ?_⟩
     (repeat' first | with_reducible refine Below.setCell ?_ ?_ _ | with_reducible refine Below.alloc ?_ ?_ _ | with_reducible refine Below.drew ?_ | with_reducible refine below_drewN ?_ _ | with_reducible assumption | with_reducible exact Below.refl _ _ | (simp only [World.size_alloc, World.size_setCell, World.size_drew]; first | done | omega) | omega)
    by_cases hc110 : d = 110
    ·subst hc110
     have HC : Hid (partQ L = ([10], 2, 0)) := Lib.hid (by rw [hL]; rfl)
     clear hL; go_enter Tryz.func81, Tryz.ntmps81; go_wp2; refine bodyPost_ret (v := partV ([10], 2, 0)) (by simp [results, Tryz.results81, go_sem, partV, errR, un, strOf]) rfl ⟨by rw [HC.out], ?_⟩
     (repeat' first | with_reducible refine Below.setCell ?_ ?_ _ | with_reducible refine Below.alloc ?_ ?_ _ | with_reducible refine Below.drew ?_ | with_reducible refine below_drewN ?_ _ | with_reducible assumption | with_reducible exact Below.refl _ _ | (simp only [World.size_alloc, World.size_setCell, World.size_drew]; first | done | omega) | omega)
    by_cases hc114 : d = 114
    ·subst hc114
     have HC : Hid (partQ L = ([13], 2, 0)) := Lib.hid (by rw [hL]; rfl)
     clear hL; go_enter Tryz.func81, Tryz.ntmps81; go_wp2; refine bodyPost_ret (v := partV ([13], 2, 0)) (by simp [results, Tryz.results81, go_sem, partV, errR, un, strOf]) rfl ⟨by rw [HC.out], ?_⟩
     (repeat' first | with_reducible refine Below.setCell ?_ ?_ _ | with_reducible refine Below.alloc ?_ ?_ _ | with_reducible refine Below.drew ?_ | with_reducible refine below_drewN ?_ _ | with_reducible assumption | with_reducible exact Below.refl _ _ | (simp only [World.size_alloc, World.size_setCell, World.size_drew]; first | done | omega) | omega)
    by_cases hc116 : d = 116
    ·subst hc116
     have HC : Hid (partQ L = ([9], 2, 0)) := Lib.hid (by rw [hL]; rfl)
     clear hL; go_enter Tryz.func81, Tryz.ntmps81; go_wp2; refine bodyPost_ret (v := partV ([9], 2, 0)) (by simp [results, Tryz.results81, go_sem, partV, errR, un, strOf]) rfl ⟨by rw [HC.out], ?_⟩
     (repeat' first | with_reducible refine Below.setCell ?_ ?_ _ | with_reducible refine Below.alloc ?_ ?_ _ | with_reducible refine Below.drew ?_ | with_reducible refine below_drewN ?_ _ | with_reducible assumption | with_reducible exact Below.refl _ _ | (simp only [World.size_alloc, World.size_setCell, World.size_drew]; first | done | omega) | omega)
    have hno : escB d = none := by
     unfold escB; rw [if_neg (by omega), if_neg hc98, if_neg hc102, if_neg hc110, if_neg hc114, if_neg hc116]
    by_cases hc117 : d = 117
    ·subst hc117
     have HC : Hid (partQ L = codedQ u) := Lib.hid (by rw [hL]; rfl)
     unfold partV at hcd; obtain ⟨q, hq⟩ : ∃ q, q = codedQ u := ⟨_, rfl⟩; rw [<- hq] at hcd HC; obtain ⟨o, z, e⟩ := q; simp only at hcd; obtain ⟨S, hS⟩ : ∃ S, S = strOf (un o) := ⟨_, rfl⟩; rw [<- hS] at hcd; have HS := Lib.hid hS; clear hL hno hS hq hc34 hc92 hc47 hc98 hc102 hc110 hc114 hc116; go_enter Tryz.func81, Tryz.ntmps81; go_wp2_with fail; refine (hcd _).mono ?_; rintro e2 w2 ⟨rfl, hb2⟩; have hz2 := hb2.size; simp only [World.size_alloc] at hz2; have hx2 := (Cells.new w #[.string ⟨#[]⟩, .int .i64 0, .int .i64 0] 87).below hb2 (by simp)
     have hx2c0 := hx2.cell 0 _ rfl; have hx2f0 := hx2.frozen 0; have hx2c1 := hx2.cell 1 _ rfl; have hx2f1 := hx2.frozen 1; have hx2c2 := hx2.cell 2 _ rfl; have hx2f2 := hx2.frozen 2; have hb3 : Below w.heap.size w w2 := ((Below.refl _ w).alloc (Nat.le_refl _) _).trans (hb2.mono (by simp))
     go_wp2; refine bodyPost_ret (v := .agg #[.string S, .int .i64 z, .int .i64 e]) (by simp [results, Tryz.results81, go_sem, *]) rfl ⟨by rw [HC.out, HS.out]; rfl, ?_⟩
     (repeat' first | with_reducible refine Below.setCell ?_ ?_ _ | with_reducible refine Below.alloc ?_ ?_ _ | with_reducible refine Below.drew ?_ | with_reducible refine below_drewN ?_ _ | with_reducible assumption | with_reducible exact Below.refl _ _ | (simp only [World.size_alloc, World.size_setCell, World.size_drew]; first | done | omega) | omega)
    ·have HC : Hid (partQ L = errR 3) := Lib.hid (by rw [hL]; simp only [partQ, escQ, hno, if_neg hc117]; rfl)
     have b1 : ((d : Int) == 34) = false := by rw [beq_eq_false_iff_ne]; omega
     have b2 : ((d : Int) == 92) = false := by rw [beq_eq_false_iff_ne]; omega
     have b3 : ((d : Int) == 47) = false := by rw [beq_eq_false_iff_ne]; omega
     have b4 : ((d : Int) == 98) = false := by rw [beq_eq_false_iff_ne]; omega
     have b5 : ((d : Int) == 102) = false := by rw [beq_eq_false_iff_ne]; omega
     have b6 : ((d : Int) == 110) = false := by rw [beq_eq_false_iff_ne]; omega
     have b7 : ((d : Int) == 114) = false := by rw [beq_eq_false_iff_ne]; omega
     have b8 : ((d : Int) == 116) = false := by rw [beq_eq_false_iff_ne]; omega
     have b9 : ((d : Int) == 117) = false := by rw [beq_eq_false_iff_ne]; omega
     clear hL hno hc34 hc92 hc47 hc98 hc102 hc110 hc114 hc116 hc117; go_enter Tryz.func81, Tryz.ntmps81; go_wp2; refine bodyPost_ret (v := partV (errR 3)) (by simp [results, Tryz.results81, go_sem, partV, errR, un, strOf]) rfl ⟨by rw [HC.out], ?_⟩
     (repeat' first | with_reducible refine Below.setCell ?_ ?_ _ | with_reducible refine Below.alloc ?_ ?_ _ | with_reducible refine Below.drew ?_ | with_reducible refine below_drewN ?_ _ | with_reducible assumption | with_reducible exact Below.refl _ _ | (simp only [World.size_alloc, World.size_setCell, World.size_drew]; first | done | omega) | omega)
  ·have hO := fun W => One_any s k W (by omega) hk
   have hle := oneN_le ((bs s).drop k) (fun x hx => bs_lt x (List.mem_of_mem_drop hx)); rw [List.length_drop, bs_length] at hle; have hb92 : ((c : Int) != 92) = true := by rw [bne_iff_ne]; omega
   have hPQ : partQ (c :: r) = if (oneN (c :: r)).2 = 0 then errR 7 else ((c :: r).take (oneN (c :: r)).2, (oneN (c :: r)).2, 0) := by
    simp only [partQ]; rw [if_neg h32, if_neg h92]
   rw [<- hq] at hPQ ⊢; obtain ⟨L, hL⟩ : ∃ L, L = (bs s).drop k := ⟨_, rfl⟩; rw [<- hL] at hPQ hO hle ⊢; obtain ⟨o, ho⟩ : ∃ o, o = oneN L := ⟨_, rfl⟩; rw [<- ho] at hPQ hO hle; obtain ⟨o1, n⟩ := o; simp only at hPQ hO hle; have hx : s.extract k (k + n) = strOf (un (L.take n)) := by rw [ext_str, show k + n - k = n by omega, hL]
   have HX := Lib.hid hx
   by_cases hn : n = 0
   ·subst hn
    have HC : Hid (partQ L = errR 7) := Lib.hid (by rw [hPQ, if_pos rfl])
    clear hq hPQ hL ho hx h92 h32; go_enter Tryz.func81, Tryz.ntmps81; go_wp2_with fail; refine (hO _).mono ?_; rintro e2 w2 ⟨rfl, hb2⟩; have hz2 := hb2.size; simp only [World.size_alloc] at hz2; have hx2 := (Cells.new w #[.string ⟨#[]⟩, .int .i64 0, .int .i64 0] 87).below hb2 (by simp)
    have hx2c0 := hx2.cell 0 _ rfl; have hx2f0 := hx2.frozen 0; have hx2c1 := hx2.cell 1 _ rfl; have hx2f1 := hx2.frozen 1; have hx2c2 := hx2.cell 2 _ rfl; have hx2f2 := hx2.frozen 2; have hb3 : Below w.heap.size w w2 := ((Below.refl _ w).alloc (Nat.le_refl _) _).trans (hb2.mono (by simp))
    go_wp2; refine bodyPost_ret (v := partV (errR 7)) (by simp [results, Tryz.results81, go_sem, partV, errR, un, strOf, *]) rfl ⟨by rw [HC.out], ?_⟩
    (repeat' first | with_reducible refine Below.setCell ?_ ?_ _ | with_reducible refine Below.alloc ?_ ?_ _ | with_reducible refine Below.drew ?_ | with_reducible refine below_drewN ?_ _ | with_reducible assumption | with_reducible exact Below.refl _ _ | (simp only [World.size_alloc, World.size_setCell, World.size_drew]; first | done | omega) | omega)
   ·have HC : Hid (partQ L = (L.take n, n, 0)) := Lib.hid (by rw [hPQ, if_neg hn])
    have hbn : ((n : Int) == 0) = false := by rw [beq_eq_false_iff_ne]; omega
    clear hq hPQ hL ho hx h92 h32 hn; go_enter Tryz.func81, Tryz.ntmps81; go_wp2_with fail; refine (hO _).mono ?_; rintro e2 w2 ⟨rfl, hb2⟩; have hz2 := hb2.size; simp only [World.size_alloc] at hz2; have hx2 := (Cells.new w #[.string ⟨#[]⟩, .int .i64 0, .int .i64 0] 87).below hb2 (by simp)
    have hx2c0 := hx2.cell 0 _ rfl; have hx2f0 := hx2.frozen 0; have hx2c1 := hx2.cell 1 _ rfl; have hx2f1 := hx2.frozen 1; have hx2c2 := hx2.cell 2 _ rfl; have hx2f2 := hx2.frozen 2; have hb3 : Below w.heap.size w w2 := ((Below.refl _ w).alloc (Nat.le_refl _) _).trans (hb2.mono (by simp))
    go_wp2; refine bodyPost_ret (v := .agg #[.string (s.extract k (k + n)), .int .i64 n, .int .i64 0]) (by simp [results, Tryz.results81, go_sem, *]) rfl ⟨by rw [HC.out, HX.out]; rfl, ?_⟩
    (repeat' first | with_reducible refine Below.setCell ?_ ?_ _ | with_reducible refine Below.alloc ?_ ?_ _ | with_reducible refine Below.drew ?_ | with_reducible refine below_drewN ?_ _ | with_reducible assumption | with_reducible exact Below.refl _ _ | (simp only [World.size_alloc, World.size_setCell, World.size_drew]; first | done | omega) | omega)
end Go.Proofs.YthbhknfhmkhfgaaGreatDoor
