/- Texts of this claim, one behind the other: ExC, BoY, BoO, BoZ, BoVp, BoZa, BoW, BoZb, LaidK, LaidS, ExZ. -/
import Derived.Test.YthmmgpbojbjihaaGreatDoorMgb
import Derived.Test.YthmmgpbojbjihaaGreatDoorMgg
import Derived.Test.YthmmgpbojbjihaaGreatDoorMgj
import Derived.Lib.LaidTab
import Derived.Test.YthmmgpbojbjihaaGreatDoorRows
import Derived.Shelf.Vars
set_option linter.unusedSimpArgs false
set_option linter.unusedVariables false

/- The walk of Great (layer 12): what it tells is left open; what is not great is small. -/
namespace Go.Proofs.YthmmgpbojbjihaaGreatDoor
open Go.RowKit Go.Tab

mutual
/-- What the reference takes off for an expression. -/
def wtX : Exp → Nat
  | .mk _ t kids => 1 + t.size / 20 + wtXs kids
def wtXs : List Exp → Nat
  | [] => 0
  | t :: r => wtX t + wtXs r
end
mutual
/-- No word in it is long. -/
def ShortX : Exp → Prop
  | .mk o t kids => o.size ≤ 20 ∧ t.size ≤ 500 ∧ ShortXs kids
def ShortXs : List Exp → Prop
  | [] => True
  | t :: r => ShortX t ∧ ShortXs r
end
theorem wtXs_snoc : ∀ (l : List Exp) (t : Exp), wtXs (l ++ [t]) = wtXs l + wtX t
  | [], t => by simp [wtXs]
  | a :: r, t => by simp only [List.cons_append, wtXs, wtXs_snoc r t]; omega
theorem wtXs_take {l : List Exp} {k : Nat} (h : k < l.length) : wtXs (l.take (k + 1)) = wtXs (l.take k) + wtX l[k] := by
  rw [take_snoc' l k h, wtXs_snoc]
theorem ShortXs_snoc : ∀ (l : List Exp) (t : Exp), ShortXs l → ShortX t → ShortXs (l ++ [t])
  | [], t, _, h => by simp only [List.nil_append, ShortXs]; exact ⟨h, trivial⟩
  | a :: r, t, h1, h2 => by simp only [List.cons_append, ShortXs] at h1 ⊢; exact ⟨h1.1, ShortXs_snoc r t h1.2 h2⟩
theorem ShortXs_take {l : List Exp} {k : Nat} (h : k < l.length) (h1 : ShortXs (l.take k)) (h2 : ShortX l[k]) : ShortXs (l.take (k + 1)) := by
  rw [take_snoc' l k h]; exact ShortXs_snoc _ _ h1 h2
theorem ShortXs.kid : ∀ {l : List Exp} {k : Nat} (h : k < l.length), ShortXs l → ShortX l[k]
  | t :: r, 0, _, h => by simp only [ShortXs] at h; exact h.1
  | t :: r, k + 1, hk, h => by
    simp only [ShortXs] at h
    exact ShortXs.kid (l := r) (k := k) (by simpa using hk) h.2
mutual
theorem bulk_wtX : ∀ t : Exp, ShortX t → t.bulk ≤ 40 * wtX t
  | .mk o t kids, h => by
    simp only [ShortX] at h
    have := bulk_wtXs kids h.2.2
    simp only [Exp.bulk, wtX]; omega
theorem bulk_wtXs : ∀ l : List Exp, ShortXs l → bulkX l ≤ 40 * wtXs l
  | [], _ => by simp [bulkX]
  | t :: r, h => by
    simp only [ShortXs] at h
    have := bulk_wtX t h.1
    have := bulk_wtXs r h.2
    simp only [bulkX, wtXs]; omega
end
/-- Some number; where it is not below nought, so much has been taken off. -/
def RoomX (left : Int) (t : Exp) (w : World) (e : Ending) (w' : World) : Prop := (∃ m : Int, e = .returned (.int .i64 m) ∧ -1125899906842624 ≤ m ∧ m ≤ 400 ∧ (0 ≤ m → (wtX t : Int) ≤ left - m ∧ ShortX t)) ∧ Below w.heap.size w w'

set_option maxHeartbeats 4000000 in
set_option maxRecDepth 100000 in
theorem roomX_step (n : Nat) (IH : ∀ (t : Exp), t.bulk ≤ n → FitX t → ∀ (dp left : Int) (w : World) (cs : List Value), ExpAt w t cs → 0 ≤ dp ∧ dp ≤ 201 → 0 ≤ left ∧ left ≤ 400 →
      Calls Tryz.prog 30 #[.agg cs.toArray, .int .i64 dp, .int .i64 left] w (RoomX left t w))
    (op text : ByteArray) (kids : List Exp)
    (h : (Exp.mk op text kids).bulk ≤ n + 1) (hf : FitX (Exp.mk op text kids))
    (dp left : Int) (w : World) (cs : List Value) (hv : ExpAt w (.mk op text kids) cs) (hdp : 0 ≤ dp ∧ dp ≤ 201) (hleft : 0 ≤ left ∧ left ≤ 400) :
    Calls Tryz.prog 30 #[.agg cs.toArray, .int .i64 dp, .int .i64 left] w (RoomX left (.mk op text kids) w) := by
  have hkb : bulkX kids ≤ n := by simp only [Exp.bulk] at h; omega
  simp only [FitX] at hf
  obtain ⟨hf1, hf2, hf3, hf5⟩ := hf
  obtain ⟨W, hW⟩ : ∃ W, W = wtX (.mk op text kids) := ⟨_, rfl⟩
  have hW2 : W = 1 + text.size / 20 + wtXs kids := hW
  obtain ⟨SS, hSS⟩ : ∃ SS, SS = ShortX (.mk op text kids) := ⟨_, rfl⟩
  have hS2 : SS = (op.size ≤ 20 ∧ text.size ≤ 500 ∧ ShortXs kids) := by rw [hSS]; simp only [ShortX]
  unfold RoomX
  rw [← hW, ← hSS]
  have HW := Lib.hid hW2
  have HS := Lib.hid hS2
  clear hW hW2 hSS hS2
  simp only [ExpAt] at hv
  obtain ⟨a, cap, rfl, hl, hm, hnil, hx⟩ := hv
  have hll := len_bulkX kids
  unfold maxLen at hm
  clear h
  have hx0 := Cells.new w #[.string op, .string text, .slice a kids.length cap] 34
  have hb0 : Below w.heap.size w (w.alloc (.cells #[.string op, .string text, .slice a kids.length cap] 34)) := (Below.refl _ w).alloc (Nat.le_refl _) _
  by_cases hbad : 200 < dp ∨ (dp ≤ 200 ∧ 500 < text.size) ∨ (dp ≤ 200 ∧ text.size ≤ 500 ∧ 20 < op.size)
  · rcases hbad with hbad | hbad | hbad
    all_goals
      go_enter Tryz.func30, Tryz.ntmps30
      go_wp2
      go_ret
      exact ⟨⟨_, rfl, by omega, by omega, fun h => by omega⟩, hb0⟩
  · have hok : dp ≤ 200 ∧ text.size ≤ 500 ∧ op.size ≤ 20 := by omega
    clear hbad
    have HOK := Lib.hid hok
    go_enter Tryz.func30, Tryz.ntmps30
    go_wp2_with fail
    go_loopw [2, 7] (fun lv i wr => ∃ (k : Nat) (m : Int), k ≤ kids.length ∧ i = .int .i64 (k : Int) ∧ lv = .int .i64 m ∧ -1125899906842624 ≤ m ∧ m ≤ 400 ∧ (0 ≤ m → m + 1 + (text.size / 20 : Nat) + wtXs (kids.take k) ≤ left ∧ ShortXs (kids.take k)) ∧ Below w.heap.size w wr ∧ Cells wr w.heap.size #[.string op, .string text, .slice a kids.length cap] 34) (fun _ i _ => kids.length - (intOf i).toNat)
    case atStart => exact ⟨0, _, Nat.zero_le _, rfl, rfl, by omega, by omega, (fun _ => by
      simp only [List.take_zero, wtXs, ShortXs]
      exact ⟨by omega, trivial⟩), hb0, hx0⟩
    case round =>
      clear hb0 hx0
      obtain ⟨k, m, hkk, rfl, rfl, hm1, hm2, hm3, hb, hX⟩ := hrel
      have HM3 := Lib.hid hm3
      clear hm3
      have hXl := hX.lt
      have hXc0 := hX.cell 0 _ rfl
      have hXf0 := hX.frozen 0
      have hXc1 := hX.cell 1 _ rfl
      have hXf1 := hX.frozen 1
      have hXc2 := hX.cell 2 _ rfl
      have hXf2 := hX.frozen 2
      by_cases hgo : k < kids.length ∧ 0 ≤ m
      · obtain ⟨hkl, hm0⟩ := hgo
        have hne : kids ≠ [] := by intro h0; rw [h0] at hkl; simp at hkl
        cases a with
        | none => have := hnil rfl; omega
        | some x =>
          obtain ⟨bb, off, sp⟩ := x
          obtain ⟨rfl, hlt, hkids⟩ := hx _ rfl hne
          simp only at hlt hkids
          obtain ⟨kc0, hkc, hkv⟩ := ExpsAt.get (ExpsAt.below hb hlt kids _ hkids) k hkl
          obtain ⟨kop, ktext, ksa, ksn, ksc, rfl, m0, m1, m2⟩ := exp_at hkv hkc
          have hkbk := bulkX_kid hkl
          have hIH := IH kids[k] (by omega) (FitX.kid hkl hf5) (dp + 1) m wr _ hkv (by omega) (by omega)
          have HKT := Lib.hid (wtXs_take hkl)
          have HST := Lib.hid (ShortXs_take hkl)
          generalize kids[k] = kid at *
          go_wp2_with fail
          refine hIH.mono ?_
          clear hIH hkv hkc
          rintro e w2 ⟨⟨m', rfl, g1, g2, g3⟩, hb2⟩
          have HG3 := Lib.hid g3
          clear g3
          have hb3 := hb.trans (hb2.mono hb.size)
          have hX2 := hX.below hb2 hXl
          clear hXc0 hXc1 hXc2 hXf0 hXf1 hXf2
          go_wp2
          go_roundw
          case rel => exact ⟨k + 1, m', hkl, by go_num, rfl, g1, g2, (fun h => by have h1 := HM3.out (by omega); have h2 := HG3.out h; have := HKT.out; exact ⟨by omega, HST.out h1.2 h2.2⟩), hb3, hX2⟩
          case measure => simp [intOf]; omega
      · have hend : k = kids.length ∨ (k < kids.length ∧ m < 0) := by omega
        clear hgo
        rcases hend with rfl | ⟨hkl, hm0⟩
        · go_wp2
          go_ret
          exact ⟨⟨_, rfl, by omega, by omega, fun h => by
            have h1 := HM3.out h
            rw [List.take_length] at h1
            have := HW.out
            refine ⟨by omega, ?_⟩
            rw [HS.out]
            exact ⟨HOK.out.2.2, HOK.out.2.1, h1.2⟩⟩, hb⟩
        · go_wp2
          go_ret
          exact ⟨⟨_, rfl, by omega, by omega, fun h => by omega⟩, hb⟩

theorem roomX_any (n : Nat) : ∀ (t : Exp), t.bulk ≤ n → FitX t → ∀ (dp left : Int) (w : World) (cs : List Value), ExpAt w t cs → 0 ≤ dp ∧ dp ≤ 201 → 0 ≤ left ∧ left ≤ 400 →
    Calls Tryz.prog 30 #[.agg cs.toArray, .int .i64 dp, .int .i64 left] w (RoomX left t w) := by
  induction n with
  | zero => intro t h; have := bulkX_pos t; omega
  | succ n IH =>
    intro t h hmax dp left w cs hv hdp hleft
    cases t with
    | mk op text kids => exact roomX_step n IH op text kids h hmax dp left w cs hv hdp hleft

theorem smallX {t : Exp} (h : wtX t ≤ 300 ∧ ShortX t) : t.bulk ≤ 12000 := by have := bulk_wtX t h.2; omega
end Go.Proofs.YthmmgpbojbjihaaGreatDoor

/- The walk of Great of items (layer 13): what it tells is left open. -/
namespace Go.Proofs.YthmmgpbojbjihaaGreatDoor
open Go.RowKit Go.Tab

set_option maxHeartbeats 4000000 in
set_option maxRecDepth 100000 in
theorem RoomX_any (t : Exp) (hf : FitX t) (left : Int) (w : World) (cs : List Value) (hv : ExpAt w t cs) (hl : 0 ≤ left ∧ left ≤ 400) :
    Calls Tryz.prog 23 #[.agg cs.toArray, .int .i64 left] w (RoomX left t w) := by
  have hR := fun w cs hv => roomX_any t.bulk t (Nat.le_refl _) hf 0 left w cs hv (by omega) hl
  obtain ⟨op, text, sa, sn, sc, rfl⟩ := hv.shape
  have hv1 := hv.below_alloc (.cells #[.string op, .string text, .slice sa sn sc] 34)
  have hR1 := hR _ _ hv1
  clear hv hv1 hR hf
  go_enter Tryz.func23, Tryz.ntmps23
  go_wp2_with fail
  refine hR1.mono ?_
  rintro e w2 ⟨⟨m', rfl, g1, g2, g3⟩, hb2⟩
  have HG3 := Lib.hid g3
  clear g3 hR1
  go_wp2
  go_ret
  exact ⟨⟨_, rfl, g1, g2, HG3.out⟩, ((Below.refl _ w).alloc (Nat.le_refl _) _).trans (hb2.mono (by simp))⟩

/-- Some number that is not far below nought. -/
def RoomI (w : World) (e : Ending) (w' : World) : Prop := (∃ m : Int, e = .returned (.int .i64 m) ∧ -1125899906842624 ≤ m ∧ m ≤ 400) ∧ Below w.heap.size w w'
set_option maxHeartbeats 4000000 in
set_option maxRecDepth 100000 in
theorem roomI_step (n : Nat) (IH : ∀ (l : List Itm), bulkI l + 1 ≤ n → FitL l → ∀ (dp left : Int) (w : World) (v : Value), ItmsAt w v l → 0 ≤ dp ∧ dp ≤ 81 → 0 ≤ left ∧ left ≤ 400 →
      Calls Tryz.prog 16 #[v, .int .i64 dp, .int .i64 left] w (RoomI w))
    (l : List Itm) (hn : bulkI l ≤ n + 1) (hf : FitL l) (dp left : Int) (w : World) (v : Value) (hv : ItmsAt w v l) (hdp : 0 ≤ dp ∧ dp ≤ 81) (hleft : 0 ≤ left ∧ left ≤ 400) :
    Calls Tryz.prog 16 #[v, .int .i64 dp, .int .i64 left] w (RoomI w) := by
  obtain ⟨a, cap, rfl, hl1, hm1, -⟩ := hv.len
  unfold maxLen at hm1
  obtain ⟨hdp0, hdp1⟩ := hdp
  obtain ⟨hle0, hle1⟩ := hleft
  by_cases hbad : 80 < dp
  · go_enter Tryz.func16, Tryz.ntmps16
    go_wp2
    go_ret
    exact ⟨⟨_, rfl, by omega, by omega⟩, Below.refl _ _⟩
  · have HV := Lib.hid hv
    have HF := Lib.hid hf
    have HIH := Lib.hid IH
    have HN := Lib.hid hn
    clear hv hf IH hn
    go_enter Tryz.func16, Tryz.ntmps16
    go_wp2_with fail
    go_loopw [2, 7, 8] (fun lv i _ wr => ∃ (k : Nat) (m : Int), k ≤ l.length ∧ i = .int .i64 (k : Int) ∧ lv = .int .i64 m ∧ -1125899906842624 ≤ m ∧ m ≤ 400 ∧ Below w.heap.size w wr) (fun _ i _ _ => l.length - (intOf i).toNat)
    case atStart => exact ⟨0, _, Nat.zero_le _, rfl, rfl, by omega, by omega, Below.refl _ _⟩
    case round =>
      obtain ⟨k, m, hk, rfl, rfl, hm2, hm3, hb⟩ := hrel
      have HB := Lib.hid hb
      by_cases hgo : k < l.length ∧ 0 ≤ m
      · obtain ⟨hkl, hm0⟩ := hgo
        obtain ⟨b, off, cs, rfl, hlt, hc, hi⟩ := (HV.out.below hb).get hkl
        have hfi := FitI.kid hkl HF.out.2
        have hbk := bulkI_kid hkl
        have hIH := HIH.out l[k].items (by have := HN.out; omega)
        generalize l[k] = x at *
        obtain ⟨bl, nm, ve, ls, its⟩ := x
        simp only [FitI] at hfi
        obtain ⟨hf1, hf2, ⟨hf3, hf4⟩, hf5, hf6⟩ := hfi
        obtain ⟨vo, vt, sa, sn, sc, la, lc, ia, ic, c0, c1, c2, c3, c4, c5, c6, hx, hls, hit⟩ := itm_at hi hc
        have hIH2 := fun dp left w v h1 h2 h3 => hIH ⟨hf5, hf6⟩ dp left w v h1 h2 h3
        have HX := Lib.hid (And.intro hx (And.intro hls (And.intro hit (And.intro hIH2 (And.intro hf2 (And.intro hf4 hbk))))))
        obtain ⟨la', lc', hlq, hl3, hl4, -⟩ := hls.len
        cases hlq
        unfold maxLen at hl4
        have HC := Lib.hid (And.intro c2 (And.intro c3 (And.intro c4 c6)))
        clear hx hls hit hIH hIH2 hf2 hf4 hf6 hbk hi hc c0 c2 c3 c4 c6 hb
        obtain ⟨hla, hlb⟩ : ls.length ≤ 140737488351232 ∧ nm.size ≤ 140737488351232 := ⟨hf3, hf1⟩
        obtain ⟨M0, hM0⟩ : ∃ M0 : Int, m - (ls.length : Int) - ((nm.size : Int) / 20) = M0 := ⟨_, rfl⟩
        have hdv : 0 ≤ (nm.size : Int) / 20 ∧ (nm.size : Int) / 20 ≤ 140737488351232 := by omega
        have hM1 : -1000000000000000 ≤ M0 := by omega
        have hM2 : M0 ≤ 400 := by omega
        obtain ⟨w3, rfl⟩ : ∃ w3, w3 = wr := ⟨_, rfl⟩
        go_wp2_with fail
        go_quiet (fail)
        go_wp2_with fail
        have HB3 := Lib.hid (below_drewN HB.out nq)
        have c1 : (w3.drewN nq).cell? ⟨b, off + k * 7 + 1, none⟩ = some (.string nm) := c1
        have c5 : (w3.drewN nq).cell? ⟨b, off + k * 7 + 5, none⟩ = some (.slice la ls.length lc) := c5
        have hx2 := below_drewN (Below.refl w3.heap.size w3) nq
        have HC4 : Hid ((w3.drewN nq).cell? ⟨b, off + k * 7 + 2, none⟩ = some (.string vo) ∧ (w3.drewN nq).cell? ⟨b, off + k * 7 + 3, none⟩ = some (.string vt) ∧ (w3.drewN nq).cell? ⟨b, off + k * 7 + 4, none⟩ = some (.slice sa sn sc) ∧ (w3.drewN nq).cell? ⟨b, off + k * 7 + 6, none⟩ = some (.slice ia its.length ic)) := HC
        have hlt3 : b < (w3.drewN nq).heap.size := Nat.lt_of_lt_of_le hlt hx2.size
        have HX2 := Lib.hid (And.intro (ExpAt.below hx2 _ _ HX.out.1) (And.intro (HX.out.2.1.below hx2 (Nat.le_refl _)) (HX.out.2.2.1.below hx2)))
        clear hx2 hlt
        generalize w3.drewN nq = w4 at *
        clear hM0 hdv
        go_loopw [2, 8] (fun lv j wr => ∃ (q : Nat) (m2 : Int), q ≤ ls.length ∧ j = .int .i64 (q : Int) ∧ lv = .int .i64 m2 ∧ -1000000000000000 ≤ m2 ∧ m2 ≤ 400 ∧ Below w4.heap.size w4 wr) (fun _ j _ => ls.length - (intOf j).toNat)
        case atStart => exact ⟨0, _, Nat.zero_le _, rfl, rfl, hM1, hM2, Below.refl _ _⟩
        case round =>
          obtain ⟨q, m2, hq, rfl, rfl, hq1, hq2, hb2⟩ := hrel
          have c1' := (hb2.cell (p := ⟨b, off + k * 7 + 1, none⟩) hlt3).trans c1
          have c5' := (hb2.cell (p := ⟨b, off + k * 7 + 5, none⟩) hlt3).trans c5
          have HB2 := Lib.hid hb2
          by_cases hgo : q < ls.length ∧ 0 ≤ m2
          · obtain ⟨hql, hqm⟩ := hgo
            obtain ⟨b2, off2, rfl, hlt2, hcell⟩ := RowOf.at (HX2.out.2.1.below hb2 (Nat.le_refl _)) hql
            have hcq := hcell q hql
            have hsq := HX.out.2.2.2.2.2.1 ls[q] (List.getElem_mem hql)
            generalize ls[q] = sq at *
            clear hcell hb2 HX HX2 HB HB3 HV HIH c1 c5 c1'
            have hdv : 0 ≤ (sq.size : Int) / 20 ∧ (sq.size : Int) / 20 ≤ 140737488351232 := by omega
            go_wp2
            go_roundw
            case rel => exact ⟨q + 1, _, hql, by go_num, rfl, by omega, by omega, HB2.out⟩
            case measure => simp [intOf]; omega
          · have HB5 := Lib.hid (HB3.out.trans (hb2.mono HB3.out.size))
            have r2 := (hb2.cell (p := ⟨b, off + k * 7 + 2, none⟩) hlt3).trans HC4.out.1
            have r3 := (hb2.cell (p := ⟨b, off + k * 7 + 3, none⟩) hlt3).trans HC4.out.2.1
            have r4 := (hb2.cell (p := ⟨b, off + k * 7 + 4, none⟩) hlt3).trans HC4.out.2.2.1
            have r6 := (hb2.cell (p := ⟨b, off + k * 7 + 6, none⟩) hlt3).trans HC4.out.2.2.2
            have hv2 := ExpAt.below hb2 _ _ HX2.out.1
            have hi2 := HX2.out.2.2.below hb2
            have hRm := fun h => RoomX_any ve HX.out.2.2.2.2.1 m2 wr _ hv2 h
            have HIT := Lib.hid (And.intro hi2 HX.out.2.2.2.1)
            have hltr : b < wr.heap.size := Nat.lt_of_lt_of_le hlt3 hb2.size
            clear HX HX2 HC HC4 hb2 HIH HV HF HN hv2 hi2 c1 c5
            by_cases h500 : 500 < nm.size
            · have hend : q = ls.length ∨ (q < ls.length ∧ m2 < 0) := by omega
              clear hgo hRm
              rcases hend with rfl | ⟨hql, hqm⟩
              all_goals
                go_wp2
                go_ret
                exact ⟨⟨_, rfl, by omega, by omega⟩, HB5.out⟩
            · by_cases hm20 : 0 ≤ m2
              · obtain rfl : q = ls.length := by omega
                have hRm := hRm ⟨hm20, hq2⟩
                clear hgo
                go_wp2_with fail
                refine hRm.mono ?_
                clear hRm
                rintro _ w6 ⟨⟨m3, rfl, g1, g2, -⟩, hb6⟩
                have r6' := (hb6.cell (p := ⟨b, off + k * 7 + 6, none⟩) hltr).trans r6
                have hlt6 : b < w6.heap.size := Nat.lt_of_lt_of_le hltr hb6.size
                have hi6 := HIT.out.1.below hb6
                have HB6 := Lib.hid (HB5.out.trans (hb6.mono HB5.out.size))
                clear r2 r3 r4 r6 hb6 c1' c5'
                by_cases hm30 : 0 ≤ m3
                · have hIH := HIT.out.2 (dp + 1) m3 w6 _ hi6 ⟨by omega, by omega⟩ ⟨hm30, g2⟩
                  clear hi6
                  go_wp2_with fail
                  refine hIH.mono ?_
                  clear hIH
                  rintro _ w7 ⟨⟨m4, rfl, g3, g4⟩, hb7⟩
                  have HB7 := Lib.hid (HB6.out.trans (hb7.mono HB6.out.size))
                  clear hb7 r6'
                  go_wp2
                  go_roundw
                  case rel => exact ⟨k + 1, m4, hkl, by go_num, rfl, g3, g4, HB7.out⟩
                  case measure => simp [intOf]; omega
                · clear hi6
                  go_wp2
                  go_roundw
                  case rel => exact ⟨k + 1, m3, hkl, by go_num, rfl, g1, g2, HB6.out⟩
                  case measure => simp [intOf]; omega
              · have hend : q = ls.length ∨ q < ls.length := by omega
                have hqm : m2 < 0 := by omega
                clear hgo hRm r2 r3 r4 r6
                rcases hend with rfl | hql
                all_goals
                  go_wp2
                  go_roundw
                  case rel => exact ⟨k + 1, m2, hkl, by go_num, rfl, by omega, by omega, HB5.out⟩
                  case measure => simp [intOf]; omega
      · have hend : k = l.length ∨ (k < l.length ∧ m < 0) := by omega
        clear hgo hb HV HF HIH
        rcases hend with rfl | ⟨hkl, hm0⟩
        all_goals
          go_wp2
          go_ret
          exact ⟨⟨_, rfl, by omega, by omega⟩, HB.out⟩
theorem roomI_any (n : Nat) : ∀ (l : List Itm), bulkI l ≤ n → FitL l → ∀ (dp left : Int) (w : World) (v : Value), ItmsAt w v l → 0 ≤ dp ∧ dp ≤ 81 → 0 ≤ left ∧ left ≤ 400 →
    Calls Tryz.prog 16 #[v, .int .i64 dp, .int .i64 left] w (RoomI w) := by
  induction n with
  | zero => exact fun l h hf dp left w v hv h1 h2 => roomI_step 0 (fun l h => absurd h (by omega)) l (by omega) hf dp left w v hv h1 h2
  | succ n IH => exact fun l h hf dp left w v hv h1 h2 => roomI_step n (fun l h => IH l (by omega)) l h hf dp left w v hv h1 h2
set_option maxHeartbeats 4000000 in
set_option maxRecDepth 100000 in
theorem GreatI_any (l : List Itm) (hf : FitL l) (w : World) (v : Value) (hv : ItmsAt w v l) :
    Calls Tryz.prog 9 #[v] w fun e w' => (∃ b, e = .returned (.bool b)) ∧ Below w.heap.size w w' := by
  have hR := roomI_any (bulkI l) l (Nat.le_refl _) hf 0 400 w v hv (by omega) (by omega)
  obtain ⟨a, cap, rfl, -⟩ := hv.len
  clear hv
  go_enter Tryz.func9, Tryz.ntmps9
  go_wp2_with fail
  refine hR.mono ?_
  rintro _ w2 ⟨⟨m, rfl, g1, g2⟩, hb2⟩
  clear hR
  go_wp2
  go_ret
  exact ⟨⟨_, rfl⟩, hb2⟩
end Go.Proofs.YthmmgpbojbjihaaGreatDoor

/- The examples of the statements of layer 13; any two lists of items are the same just if all that is in them is (layer 13). -/
namespace Go.Proofs.YthmmgpbojbjihaaGreatDoor
open Go.RowKit Go.Tab

abbrev exW : Bs := [97, 32, 61, 32, 49, 10, 98, 32, 34, 120, 34, 32, 123, 10, 99, 32, 61, 32, 50, 10, 125, 10]
theorem lin_exW : linesP exW = ([.mk false (strL [97]) (.mk oNum (strL [49]) []) [] [], .mk true (strL [98]) zeroX [strL [120]] [.mk false (strL [99]) (.mk oNum (strL [50]) []) [] []]], -1, 0) := by kernel_rfl
set_option maxHeartbeats 4000000 in
set_option maxRecDepth 100000 in
theorem wakes13_any (w : World) (hT : LexT w) : Calls Tryz.prog 6 #[] w fun e w' => e = .returned (.bool true) ∧ Below w.heap.size w w' := by
  have hA := bodyParse_any (strL exW) w hT (by decide)
  rw [strL_list, lin_exW] at hA
  go_enter Tryz.func6, Tryz.ntmps6
  go_wp2_with fail
  refine hA.mono ?_
  clear hA
  rintro _ w2 ⟨⟨v, rfl, hI⟩, hb2⟩
  obtain ⟨a, cap, rfl, -⟩ := hI.len
  obtain ⟨b, off, cs, rfl, hlt, hc, hi⟩ := hI.get (k := 1) (by decide)
  obtain ⟨vo, vt, sa, sn, sc, la, lc, ia, ic, c0, c1, c2, c3, c4, c5, c6, -⟩ := itm_at hi hc
  have HB := Lib.hid hb2
  clear hI hc hi c1 c2 c3 c4 hb2
  go_wp2
  go_ret
  exact ⟨rfl, HB.out⟩
set_option maxHeartbeats 4000000 in
set_option maxRecDepth 100000 in
theorem BodySame_walk (a0 : Value) (l0 : List Itm) (a1 : Value) (l1 : List Itm) (w : World) (w0 : ItmsAt w a0 l0) (w1 : ItmsAt w a1 l1) (hT : LexT w) (f0 : FitL l0) (f1 : FitL l1) :
    Calls Tryz.prog 5 #[a0, a1] w fun e w' => e = .returned (.bool true) ∧ Below w.heap.size w w' := by
  have hW := wakes13_any w hT
  obtain ⟨s0, n0, rfl, -⟩ := w0.len
  obtain ⟨s1, n1, rfl, -⟩ := w1.len
  clear hT
  go_enter Tryz.func5, Tryz.ntmps5
  go_wp2_with fail
  refine hW.mono ?_
  clear hW
  rintro _ v2 ⟨rfl, hb2⟩
  have hG0 := GreatI_any l0 f0 v2 _ (w0.below hb2)
  have HB2 := Lib.hid hb2
  have hv0 := w0.below hb2
  have hv1 := w1.below hb2
  clear hb2 w0 w1
  go_wp2_with fail
  refine hG0.mono ?_
  clear hG0
  rintro _ v3 ⟨⟨b, rfl⟩, hb3⟩
  have HB3 := Lib.hid (HB2.out.trans (hb3.mono HB2.out.size))
  cases b with
  | true =>
    clear hb3
    go_wp2
    go_ret
    exact ⟨rfl, HB3.out⟩
  | false =>
    have hv0 := hv0.below hb3
    have hv1 := hv1.below hb3
    have hG1 := GreatI_any l1 f1 v3 _ hv1
    clear hb3
    go_wp2_with fail
    refine hG1.mono ?_
    clear hG1
    rintro _ v4 ⟨⟨b, rfl⟩, hb4⟩
    have HB4 := Lib.hid (HB3.out.trans (hb4.mono HB3.out.size))
    cases b with
    | true =>
      clear hb4
      go_wp2
      go_ret
      exact ⟨rfl, HB4.out⟩
    | false =>
      have hv0 := hv0.below hb4
      have hv1 := hv1.below hb4
      obtain ⟨b, hb⟩ := some_bool (l0 = l1)
      have hS := SameP.fix hb (xISame_any l0 l1 v4 _ _ hv0 hv1)
      clear hb4
      go_wp2_with fail
      refine hS.mono ?_
      clear hS
      rintro _ v5 ⟨rfl, hb5⟩
      have HB5 := Lib.hid (HB4.out.trans (hb5.mono HB4.out.size))
      have hR := SameP.fix hb (rISame_any l0 l1 v5 _ _ (hv0.below hb5) (hv1.below hb5))
      clear hb5 hv0 hv1
      go_wp2_with fail
      refine hR.mono ?_
      clear hR
      rintro _ v6 ⟨rfl, hb6⟩
      have HB6 := Lib.hid (HB5.out.trans (hb6.mono HB5.out.size))
      clear hb6 hb
      go_wp2
      go_ret
      exact ⟨by simp, HB6.out⟩
end Go.Proofs.YthmmgpbojbjihaaGreatDoor

/- Rows of items put together (layer 13). -/
namespace Go.Proofs.YthmmgpbojbjihaaGreatDoor
open Go.RowKit Go.Tab

theorem itmsR_cells {w : World} {b : Nat} : ∀ (l : List Itm) (off : Nat), ItmsR (ExpAt w) (RowOf Value.string w) (fun b => b < w.heap.size) w b off l →
    ∃ L : List (Itm × List Value), L.map (·.1) = l ∧ (∀ s ∈ L, ItmAt w s.1 s.2) ∧ ∀ (j : Nat) (u : Value), (L.flatMap (·.2))[j]? = some u → w.cell? ⟨b, off + j, none⟩ = some u
  | [], _, _ => ⟨[], rfl, (fun _ h => by cases h), fun j u h => by simp at h⟩
  | t :: r, off, h => by
    simp only [ItmsR] at h
    obtain ⟨⟨cs, h1, h2⟩, h3⟩ := h
    obtain ⟨L, g1, g2, g3⟩ := itmsR_cells r (off + 7) h3
    refine ⟨(t, cs) :: L, by rw [List.map_cons, g1], fun s hs => ?_, fun j u hu => ?_⟩
    · rcases List.mem_cons.1 hs with rfl | hs
      · exact h2
      · exact g2 s hs
    · have h7 : cs.length = 7 := ItmR.len7 h2
      simp only [List.flatMap_cons] at hu
      by_cases hj : j < 7
      · rw [List.getElem?_append_left (by omega)] at hu
        exact h1 j u hu
      · rw [List.getElem?_append_right (by omega), h7] at hu
        have := g3 (j - 7) u hu
        rw [show off + 7 + (j - 7) = off + j by omega] at this
        exact this
theorem ItmsAt.cells {w : World} {v : Value} {l : List Itm} (h : ItmsAt w v l) : ∃ (L : List (Itm × List Value)) (a : Option Addr) (cap : Nat), L.map (·.1) = l ∧ (∀ s ∈ L, ItmAt w s.1 s.2) ∧ v = .slice a l.length cap ∧ (a = none → cap = 0) ∧ l.length ≤ cap ∧
    ∀ x, a = some x → l ≠ [] → x.block < w.heap.size ∧ ∀ j u, (L.flatMap (·.2))[j]? = some u → w.cell? (x.add j) = some u := by
  obtain ⟨a, cap, rfl, h1, h2, h3, h4⟩ := h
  cases a with
  | none =>
    have hc := h3 rfl
    have : l = [] := List.eq_nil_of_length_eq_zero (by omega)
    subst this
    exact ⟨[], none, cap, rfl, (fun _ h => by cases h), rfl, h3, h1, fun x hx => by cases hx⟩
  | some x =>
    by_cases hl : l = []
    · subst hl
      exact ⟨[], some x, cap, rfl, (fun _ h => by cases h), rfl, h3, h1, fun y _ h => absurd rfl h⟩
    · obtain ⟨g1, g2, g3⟩ := h4 x rfl hl
      obtain ⟨L, q1, q2, q3⟩ := itmsR_cells l x.off g3
      refine ⟨L, some x, cap, q1, q2, rfl, h3, h1, fun y hy _ => ?_⟩
      cases hy
      refine ⟨g2, fun j u hu => ?_⟩
      obtain ⟨b, off, sp⟩ := x
      simp only at g1 g3 q3
      subst g1
      rw [Addr.add_lit]
      exact q3 j u hu
theorem itmC_all {w : World} {L : List (Itm × List Value)} (h : ∀ s ∈ L, ItmAt w s.1 s.2) : ∀ u ∈ L.flatMap (·.2), u.oneCell' = true := by
  intro u hu
  obtain ⟨s, hs, hq⟩ := List.mem_flatMap.1 hu
  refine ItmC.one (fun v l hr => ?_) (fun e cs he => ?_) (h s hs) u hq
  · obtain ⟨a, cap, rfl, -⟩ := hr.len
    rfl
  · obtain ⟨o, t, sa, sn, sc, rfl⟩ := he.shape
    intro u hu
    simp only [List.mem_cons, List.not_mem_nil, or_false] at hu
    rcases hu with rfl | rfl | rfl <;> rfl
theorem flatL_len {w : World} : ∀ {L : List (Itm × List Value)}, (∀ s ∈ L, ItmAt w s.1 s.2) → (L.flatMap (·.2)).length = L.length * 7
  | [], _ => rfl
  | s :: L, h => by
    have h7 : s.2.length = 7 := ItmR.len7 (h s (by simp))
    have ih := flatL_len (L := L) (fun x hx => h x (by simp [hx]))
    simp only [List.flatMap_cons, List.length_append, List.length_cons, h7, ih]; omega
/-- An own row of items, read. -/
theorem itms_own {w : World} {base : Nat} {v : Value} {L : List (Itm × List Value)} (h : w.ownsRow base 37 7 v L.length (L.flatMap (·.2))) (hi : ∀ s ∈ L, ItmAt w s.1 s.2) : ItmsAt w v (L.map (·.1)) := by
  have h7 : ∀ cs ∈ L.map (·.2), cs.length = 7 := fun cs hcs => by
    obtain ⟨s, hs, rfl⟩ := List.mem_map.1 hcs
    exact ItmR.len7 (hi s hs)
  have hown : OwnC base w v (L.map (·.2)) := ⟨by rw [List.length_map, ← List.flatMap_def]; exact h, h7⟩
  have hform : ∃ a cap, v = .slice a L.length cap ∧ L.length ≤ cap ∧ cap ≤ maxLen ∧ (a = none → cap = 0) ∧ ∀ x, a = some x → x.spot = none ∧ v.ownBlock = some x.block := by
    rcases h.2 with ⟨q1, q2⟩ | ⟨g, cap, cur, q1, -, -, q2, q3, -⟩
    · exact ⟨none, 0, by rw [q1, q2], by rw [q2]; exact Nat.le_refl _, Nat.zero_le _, fun _ => rfl, fun x hx => by cases hx⟩
    · exact ⟨_, cap, q1, q2, q3, (fun h => by cases h), fun x hx => by cases hx; exact ⟨rfl, by rw [q1]; rfl⟩⟩
  obtain ⟨a, cap, q1, q2, q3, q4, q5⟩ := hform
  refine ⟨a, cap, by rw [q1, List.length_map], by rw [List.length_map]; exact q2, q3, q4, fun x hx hne => ?_⟩
  obtain ⟨r1, r2⟩ := q5 x hx
  refine ⟨r1, (World.ownsRow.lt h _ r2).2, ItmsR.make _ _ (fun k hk => ?_)⟩
  rw [List.length_map] at hk
  rw [q1] at hown
  obtain ⟨g, he, -, -, hc, -⟩ := hown.cellAt (k := k) (by simpa using hk)
  rw [hx] at he
  cases he
  refine ⟨L[k].2, fun j u hu => ?_, ?_⟩
  · rw [Nat.zero_add]
    exact hc j u (by simpa using hu)
  · rw [List.getElem_map]
    exact hi _ (List.getElem_mem hk)
theorem itms_form {w : World} {base n : Nat} {v : Value} {xs : List Value} (h : w.ownsRow base 37 7 v n xs) : ∃ a cap, v = .slice a n cap := by
  rcases h.2 with ⟨rfl, h3⟩ | ⟨g, cap, cur, rfl, _⟩
  · exact ⟨none, 0, by rw [h3]⟩
  · exact ⟨_, cap, rfl⟩
section
variable {w : World} {ops : Array Oper} {rest : List Oper} {o : Oper} {a : Act} {Q : Exit → Act → World → Prop}
/-- 'append(s, x...)', of items. -/
theorem wpList_append_itms (hgd : Region.wanted o (yielded ops a.tmps) = true) (s x : Operand)
    (ho : o.op = .call { callee := .builtin .append, args := #[s, x], argTypes := #[23, 23] })
    (base : Nat) (L : List (Itm × List Value)) (l2 : List Itm) (hown : w.ownsRow base 37 7 (a.eval s) L.length (L.flatMap (·.2))) (w0 : World) (hrow : ItmsAt w0 (a.eval x) l2)
    (hm : L.length + l2.length ≤ 1000000) (hbase : base ≤ w.heap.size) (hw0 : w0.heap.size = base) (hb : Below base w0 w)
    (hK : ∀ (L2 : List (Itm × List Value)) v' w', L2.map (·.1) = l2 → (∀ s ∈ L2, ItmAt w0 s.1 s.2) → w'.ownsRow base 37 7 v' (L ++ L2).length ((L ++ L2).flatMap (·.2)) → Below base w0 w' → w.grownBy w' (a.eval s).ownBlock → wpList Tryz.prog ops Q rest (a.put o.dst v') w') : wpList Tryz.prog ops Q (o :: rest) a w := by
  obtain ⟨i, hi1, hi2, hi3, hi4⟩ := info_parts Tryz.infoItm
  obtain ⟨L2, ao, cap, hL, hL2, hv, hn, hc, hx⟩ := hrow.cells
  have hlen : L2.length = l2.length := by rw [← hL, List.length_map]
  refine wpList_want hgd fun K hK' => ?_
  by_cases hl2 : l2 = []
  · subst hl2
    have hL0 : L2 = [] := List.eq_nil_of_length_eq_zero (by simpa using hlen)
    subst hL0
    cases ao with
    | none =>
      have := hn rfl
      subst this
      have hrun := run_append_owned_none (P := Tryz.prog) (w := w) base 23 o.type 37 i 7 Tryz.underlying23 hi1 (a.eval s) L.length (L.flatMap (·.2)) hown
      unfold Oper.wp
      simp [execOp, ho, resolve, invoke, builtin, hv, hrun, Result.andThen]
      exact hK' _ _ (hK [] _ _ rfl (fun _ h => by cases h) (by simpa using hown) hb ⟨rfl, rfl, rfl, Nat.le_refl _, fun _ _ _ => rfl⟩)
    | some ad =>
      refine wp_append_own w s x 23 ho base 37 i _ 7 128 Tryz.underlying23 hi1 hi2 hi3 hi4 rfl (by decide) (a.eval s) L.length (L.flatMap (·.2)) rfl hown ad 0 cap [] (by simpa using hv) (by simp) (by simp) (by simp) (by unfold maxLen; simp at hm; omega) (by simp at hm; omega) hbase ?_
      intro v' w' hown' hg _
      exact hK' _ _ (hK [] v' w' rfl (fun _ h => by cases h) (by simpa using hown') (hb.trans (grown_below hg hbase (fun k hk => (World.ownsRow.lt hown k hk).1))) hg)
  cases ao with
  | none =>
    have := hn rfl
    subst this
    exact absurd (List.eq_nil_of_length_eq_zero (by omega)) hl2
  | some ad =>
    obtain ⟨g2, g30⟩ := hx _ rfl hl2
    have g3 : ∀ j u, (L2.flatMap (·.2))[j]? = some u → w.cell? (ad.add j) = some u := fun j u hu => by
      have h1 := g30 j u hu
      exact (hb.cell (p := ad.add j) (by rw [block_add]; omega)).trans h1
    have hfl : (L2.flatMap (·.2)).length = l2.length * 7 := by rw [← hlen]; exact flatL_len hL2
    refine wp_append_own w s x 23 ho base 37 i _ 7 128 Tryz.underlying23 hi1 hi2 hi3 hi4 rfl (by decide) (a.eval s) L.length (L.flatMap (·.2)) rfl hown ad l2.length cap (L2.flatMap (·.2)) hv hfl g3 (itmC_all hL2) (by unfold maxLen; omega) (by omega) hbase ?_
    intro v' w' hown' hg _
    refine hK' _ _ (hK L2 v' w' hL hL2 ?_ (hb.trans (grown_below hg hbase (fun k hk => (World.ownsRow.lt hown k hk).1))) hg)
    rw [List.length_append, hlen, List.flatMap_append]
    exact hown'
end
end Go.Proofs.YthmmgpbojbjihaaGreatDoor

/- Plain law of layer 13: no place lies behind the text's end. -/
namespace Go.Proofs.YthmmgpbojbjihaaGreatDoor

theorem lexL_pos : ∀ (k : Nat) (l : Bs) (p : Nat), l.length ≤ k → (∀ t ∈ (lexL l p).1, 0 ≤ t.pos ∧ t.pos ≤ (p + l.length : Nat)) ∧ -1 ≤ (lexL l p).2.1 ∧ (lexL l p).2.1 ≤ (p + l.length : Nat)
  | 0, l, p, h => by
    obtain rfl := List.eq_nil_of_length_eq_zero (Nat.le_zero.1 h)
    rw [lexL_nil]
    exact ⟨fun t ht => (by cases ht), by simp, by simp only; omega⟩
  | k + 1, [], p, _ => by
    rw [lexL_nil]
    exact ⟨fun t ht => (by cases ht), by simp, by simp only; omega⟩
  | k + 1, c :: r, p, h => by
    simp only [List.length_cons] at h ⊢
    by_cases hb : blankB c = true
    · rw [lexL_blank hb]
      obtain ⟨h1, h2, h3⟩ := lexL_pos k r (p + 1) (by omega)
      exact ⟨fun t ht => by have := h1 t ht; omega, h2, by omega⟩
    · have hb : blankB c = false := by simpa using hb
      cases ho : one1 (c :: r) with
      | bad off e =>
        rw [lexL_bad hb ho]
        have := one1_off ho
        simp only [List.length_cons] at this
        exact ⟨fun t ht => (by cases ht), by simp only; omega, by simp only; omega⟩
      | tok kd sz =>
        have hs := one1_size ho
        rw [lexL_tok hb ho]
        simp only [List.length_cons] at hs
        obtain ⟨h1, h2, h3⟩ := lexL_pos k ((c :: r).drop sz) (p + sz) (by rw [List.length_drop, List.length_cons]; omega)
        rw [List.length_drop, List.length_cons] at h1 h3
        refine ⟨fun t ht => ?_, h2, by simp only at h3 ⊢; omega⟩
        rcases List.mem_cons.1 ht with rfl | ht
        · simp only; omega
        · have := h1 t ht; omega
def LnR.within (B : Int) : LnR → Prop
  | .wrong a _ => 0 ≤ a ∧ a ≤ B
  | _ => True
theorem lackR_within {B : Int} {row : List Tok} {stop : Int} (hs : 0 ≤ stop ∧ stop ≤ B) (hr : ∀ t ∈ row, 0 ≤ t.pos ∧ t.pos ≤ B) (last : Bool) (i : Nat) : (lackR row stop last i).within B := by
  unfold lackR
  split
  · next t ht => exact hr t (List.mem_of_getElem? ht)
  · split
    · exact hs
    · exact hs
theorem lineK_within {B : Int} (n : Nat) {row : List Tok} {stop : Int} (hs : 0 ≤ stop ∧ stop ≤ B) (hr : ∀ t ∈ row, 0 ≤ t.pos ∧ t.pos ≤ B) (last : Bool) : (lineK n row stop last).within B := by
  have h0 : (0 : Int) ≤ 0 ∧ (0 : Int) ≤ B := ⟨Int.le_refl _, by omega⟩
  cases row with
  | nil => trivial
  | cons t r =>
    simp only [lineK]
    split
    · split
      · exact lackR_within hs hr ..
      · split
        · exact lackR_within hs hr ..
        · trivial
    · split
      · exact lackR_within hs hr ..
      · split
        · unfold attrK
          split
          · exact lackR_within hs hr ..
          · split
            · trivial
            · split
              · next t ht => exact hr t (List.mem_of_getElem? ht)
              · exact h0
        · unfold blockK
          simp only
          split
          · exact lackR_within hs hr ..
          · split
            · split
              · next t ht => exact hr t (List.mem_of_getElem? ht)
              · exact h0
            · split
              · trivial
              · split
                · exact lackR_within hs hr ..
                · split
                  · exact lackR_within hs hr ..
                  · trivial
theorem readK_within {B : Int} (st : List Itm) {row : List Tok} {stop : Int} (hs : 0 ≤ stop ∧ stop ≤ B) (hr : ∀ t ∈ row, 0 ≤ t.pos ∧ t.pos ≤ B) (last : Bool) : 0 ≤ (readK st row stop last).2.1 ∧ (readK st row stop last).2.1 ≤ B := by
  rw [readK_R]
  have h := lineK_within st.length hs hr last
  revert h
  cases lineK st.length row stop last with
  | wrong a e => intro h; exact h
  | _ => intro _; simp only [readR]; omega
theorem linesF_within {size : Int} (hz : 0 ≤ size) : ∀ (toks : List Tok) (st : List Itm) (row : List Tok), (∀ t ∈ toks, 0 ≤ t.pos ∧ t.pos ≤ size) → (∀ t ∈ row, 0 ≤ t.pos ∧ t.pos ≤ size) → -1 ≤ (linesF size toks st row).2.1 ∧ (linesF size toks st row).2.1 ≤ size
  | [], st, row, _, hr => by
    have h := readK_within st (stop := size) ⟨hz, Int.le_refl _⟩ hr true
    unfold linesF
    split
    · simp only; omega
    · split
      · simp only; omega
      · simp only; omega
  | t :: r, st, row, ht, hr => by
    have h := readK_within st (stop := t.pos) (ht t (by simp)) hr false
    have hr2 : ∀ x ∈ r, 0 ≤ x.pos ∧ x.pos ≤ size := fun x hx => ht x (by simp [hx])
    unfold linesF
    split
    · exact linesF_within hz r st row hr2 hr
    · split
      · split
        · simp only; omega
        · exact linesF_within hz r _ [] hr2 (fun _ h => by cases h)
      · exact linesF_within hz r st _ hr2 (fun x hx => by
          rcases List.mem_append.1 hx with hx | hx
          · exact hr x hx
          · simp at hx; subst hx; exact ht _ (by simp))
theorem linesP_within (l : Bs) : -1 ≤ (linesP l).2.1 ∧ (linesP l).2.1 ≤ (l.length : Nat) := by
  obtain ⟨h1, h2, h3⟩ := lexL_pos l.length l 0 (Nat.le_refl _)
  rw [Nat.zero_add] at h1 h3
  by_cases h : (lexL l 0).2.2 = 0
  · rw [linesP_of h]
    exact linesF_within (by omega) _ _ _ h1 (fun _ h => by cases h)
  · rw [linesP_bad h]
    exact ⟨h2, h3⟩
theorem linesF_few (size : Int) : ∀ (toks : List Tok) (st : List Itm) (row : List Tok) (m : Nat), Small m st → (linesF size toks st row).1.length ≤ m + toks.length + 1
  | [], st, row, m, h => by
    have h2 := readK_small h row size true
    unfold linesF
    split
    · exact Nat.zero_le _
    · split
      · exact Nat.zero_le _
      · cases hq : (readK st row size true).1 with
        | nil => exact absurd hq h2.1
        | cons x r =>
          have := h2.2.2 x (by rw [hq]; simp)
          simpa using this
  | t :: r, st, row, m, h => by
    unfold linesF
    rw [List.length_cons]
    split
    · have := linesF_few size r st row m h; omega
    · split
      · split
        · exact Nat.zero_le _
        · have := linesF_few size r _ [] (m + 1) (readK_small h row t.pos false); omega
      · have := linesF_few size r st (row ++ [t]) m h; omega
theorem linesP_few (l : Bs) : (linesP l).1.length ≤ l.length + 1 := by
  by_cases h : (lexL l 0).2.2 = 0
  · rw [linesP_of h]
    have h1 := linesF_few l.length (lexL l 0).1 [zeroI] [] 0 zeroI_small
    have h2 := lexL_len l.length l 0 (Nat.le_refl _)
    omega
  · rw [linesP_bad h]
    exact Nat.zero_le _
end Go.Proofs.YthmmgpbojbjihaaGreatDoor

/- Two configurations, one behind the other on lines of their own, are the items of both (layer 13). -/
namespace Go.Proofs.YthmmgpbojbjihaaGreatDoor
open Go.RowKit Go.Tab

/-- Both texts' answers, and that of both with the line's end between. -/
theorem join_cases (a b : ByteArray) : (linesP a.data.toList).2.2 ≠ 0 ∨ ((linesP a.data.toList).2.2 = 0 ∧ Sim (linesP a.data.toList).1 (a.size + 1) (linesP b.data.toList) (linesP (a ++ ⟨#[10]⟩ ++ b).data.toList)) := by
  by_cases h : (linesP a.data.toList).2.2 = 0
  · have := linesP_join (t := b.data.toList) h
    rw [size_list2] at this
    rw [app_list, app_list]
    exact .inr ⟨h, by simpa using this⟩
  · exact .inl h
set_option maxHeartbeats 4000000 in
set_option maxRecDepth 100000 in
theorem BodyJoins_walk (a0 : ByteArray) (a1 : ByteArray) (w : World) (w0 : a0.size ≤ maxLen) (w1 : a1.size ≤ maxLen) (hT : LexT w) :
    Calls Tryz.prog 3 #[.string a0, .string a1] w fun e w' => e = .returned (.bool true) ∧ Below w.heap.size w w' := by
  have hW := wakes13_any w hT
  unfold maxLen at w0 w1
  go_enter Tryz.func3, Tryz.ntmps3
  go_wp2_with fail
  refine hW.mono ?_
  clear hW
  rintro _ v1 ⟨rfl, hb1⟩
  have hT1 := hT.below hb1
  have HB1 := Lib.hid hb1
  clear hb1 hT
  by_cases h0 : 700 < a0.size
  · go_wp2
    go_ret
    exact ⟨rfl, HB1.out⟩
  by_cases h1 : 700 < a1.size
  · go_wp2
    go_ret
    exact ⟨rfl, HB1.out⟩
  have hA := bodyParse_any a0 v1 hT1 (by omega)
  have hJ := Lib.hid (join_cases a0 a1)
  have hin := Lib.hid (linesP_within a1.data.toList)
  have hfa := linesP_few a0.data.toList
  have hfb := linesP_few a1.data.toList
  rw [size_list2] at hfa hfb
  go_wp2_with fail
  refine hA.mono ?_
  clear hA
  rintro _ v2 ⟨⟨va, rfl, hIa⟩, hb2⟩
  have hT2 := hT1.below hb2
  have HB2 := Lib.hid (HB1.out.trans (hb2.mono HB1.out.size))
  have hB := bodyParse_any a1 v2 hT2 (by omega)
  clear hb2 hT1
  go_wp2_with fail
  refine hB.mono ?_
  clear hB
  rintro _ v3 ⟨⟨vb, rfl, hIb⟩, hb3⟩
  have hT3 := hT2.below hb3
  have HB3 := Lib.hid (HB2.out.trans (hb3.mono HB2.out.size))
  have hIa := hIa.below hb3
  have hC := bodyParse_any (a0 ++ ⟨#[10]⟩ ++ a1) v3 hT3 (by simp; show a0.size + 1 + a1.size ≤ _; omega)
  clear hb3 hT2
  generalize linesP (a0 ++ ⟨#[10]⟩ ++ a1).data.toList = RC at *
  generalize linesP a0.data.toList = RA at *
  generalize linesP a1.data.toList = RB at *
  rw [size_list2] at hin
  obtain ⟨la, pa, ea⟩ := RA
  obtain ⟨lb, pb, eb⟩ := RB
  obtain ⟨lc, pc, ec⟩ := RC
  simp only at hJ hin hIa hIb hC hfa hfb
  have HI := Lib.hid (And.intro hIa hIb)
  obtain ⟨aa, ca, rfl, -⟩ := hIa.len
  obtain ⟨ab, cb, rfl, -⟩ := hIb.len
  clear hIa hIb
  go_wp2_with fail
  refine hC.mono ?_
  clear hC
  rintro _ v4 ⟨⟨vc, rfl, hIc⟩, hb4⟩
  have HB4 := Lib.hid (HB3.out.trans (hb4.mono HB3.out.size))
  have HI4 := Lib.hid (And.intro (HI.out.1.below hb4) (And.intro (HI.out.2.below hb4) hIc))
  obtain ⟨ac, cc, rfl, -⟩ := hIc.len
  clear hb4 hT3 HI hIc
  rcases hJ.out with hea | ⟨hea, hsim⟩
  · have e0 : (ea != 0) = true := by simpa using hea
    clear hJ hin hea
    go_wp2
    go_ret
    exact ⟨rfl, HB4.out⟩
  · subst hea
    obtain ⟨s1, s2, s3⟩ := hsim
    simp only at s1 s2 s3
    subst s1
    by_cases heb : ec = 0
    · subst heb
      obtain ⟨rfl, rfl⟩ := s3 rfl
      clear s2 s3 hJ hin
      go_wp2_with (with_reducible first | refine stop_append ?_)
      refine Stop.out ?_
      have hA4 : Below v4.heap.size v4 (v4.alloc (.cells #[] 37)) := (Below.refl _ v4).alloc (Nat.le_refl _) _
      have hE : (v4.alloc (.cells #[] 37)).ownsRow v4.heap.size 37 7 (.slice (some ⟨v4.heap.size, 0, none⟩) 0 0) ([] : List (Itm × List Value)).length (([] : List (Itm × List Value)).flatMap (·.2)) :=
        ⟨rfl, .inr ⟨_, 0, #[], rfl, Nat.le_refl _, Cells.new v4 #[] 37, Nat.le_refl _, Nat.zero_le _, rfl, rfl⟩⟩
      refine wpList_append_itms rfl _ _ rfl v4.heap.size [] la (by exact hE) v4 (by exact HI4.out.1) (by simp; omega) hA4.size rfl hA4 ?_
      intro L1 v5 w5 hL1 hAt1 hown1 hb5 hg5
      rw [List.nil_append] at hown1
      obtain ⟨a5, c5, rfl⟩ := itms_form hown1
      have hlen1 : Hid (L1.length = la.length) := Lib.hid (by rw [← hL1, List.length_map])
      have H5 := Lib.hid (And.intro hb5 (And.intro hAt1 hL1))
      have hs5 := hb5.size
      clear hE hAt1 hL1 hg5 hb5 hA4
      go_wp2_with (with_reducible first | refine stop_append ?_)
      refine Stop.out ?_
      refine wpList_append_itms rfl _ _ rfl v4.heap.size L1 lb (by exact hown1) v4 (by exact HI4.out.2.1) (by have := hlen1.out; omega) hs5 rfl H5.out.1 ?_
      intro L2 v6 w6 hL2 hAt2 hown2 hb6 hg6
      obtain ⟨a6, c6, rfl⟩ := itms_form hown2
      have hIt : ItmsAt w6 (.slice a6 (L1 ++ L2).length c6) (la ++ lb) := by
        have := itms_own hown2 (fun s hs => by
          rcases List.mem_append.1 hs with hs | hs
          · exact ItmAt.below hb6 _ _ (H5.out.2.1 s hs)
          · exact ItmAt.below hb6 _ _ (hAt2 s hs))
        rw [List.map_append, H5.out.2.2, hL2] at this
        exact this
      have HB6 := Lib.hid (HB4.out.trans (hb6.mono HB4.out.size))
      obtain ⟨b, hb⟩ := some_bool (la ++ lb = la ++ lb)
      have hR := SameP.fix hb (rISame_any (la ++ lb) (la ++ lb) w6 _ _ (HI4.out.2.2.below hb6) hIt)
      obtain rfl : b = true := hb.2 rfl
      generalize (L1 ++ L2).length = n6 at *
      rw [show (la ++ lb).length = la.length + lb.length by simp] at hR
      clear hown1 hown2 hAt2 hL2 hb6 hg6 hIt hb
      generalize la.length + lb.length = n7 at *
      go_wp2_with fail
      refine hR.mono ?_
      clear hR
      rintro _ w7 ⟨rfl, hb7⟩
      have HB7 := Lib.hid (HB6.out.trans (hb7.mono HB6.out.size))
      clear hb7
      go_wp2
      go_ret
      exact ⟨rfl, HB7.out⟩
    · obtain ⟨-, rfl⟩ := s2 heb
      have e0 : (ec != 0) = true := by simpa using heb
      have e1 : (ec == ec) = true := by simp
      obtain ⟨i1, i2⟩ := hin.out
      have hq : (pb + ((a0.size : Int) + 1) == pb + (a0.size : Int) + 1) = true := by simp; omega
      have HQ := Lib.hid hq
      clear s2 s3 hJ hin heb hq
      go_wp2
      go_ret
      refine ⟨?_, HB4.out⟩
      show Ending.returned (.bool (pb + ((a0.size : Int) + 1) == pb + (a0.size : Int) + 1)) = _
      rw [HQ.out]
end Go.Proofs.YthmmgpbojbjihaaGreatDoor

/- Plain law of layer 13: a comment of its own line, and blanks, without any program. -/
namespace Go.Proofs.YthmmgpbojbjihaaGreatDoor

def Prt (l : Bs) : Prop := ∀ x ∈ l, 32 ≤ x.toNat ∧ x.toNat ≤ 126
theorem prt_scan : ∀ (l : List Nat) (a : Nat), (∀ x ∈ l, 32 ≤ x ∧ x ≤ 126) → (scan l a).2 = none ∧ ∀ x ∈ (scan l a).1, 32 ≤ x.2
  | [], a, _ => by rw [scan_nil]; simp
  | c :: r, a, h => by
    have hc := h c (by simp)
    have ho : oneN (c :: r) = (c, 1) := by simp [oneN, show c < 128 by omega]
    obtain ⟨h1, h2⟩ := prt_scan r (a + 1) (fun x hx => h x (by simp [hx]))
    rw [scan_good (by simp) ho (by simp)]
    refine ⟨h1, fun x hx => ?_⟩
    simp only [List.drop_succ_cons, List.drop_zero, List.mem_cons] at hx
    rcases hx with rfl | hx
    · exact hc.1
    · exact h2 x hx
theorem wth_prt {l : Bs} (h : Prt l) : wth l = none := by
  obtain ⟨h1, h2⟩ := prt_scan (nb l) 0 (fun x hx => by
    obtain ⟨c, hc, rfl⟩ := List.mem_map.1 hx
    exact h c hc)
  unfold wth
  have hf : (scan (nb l) 0).1.find? (fun x => decide (x.2 < 32) && x.2 != 9) = none := by
    rw [List.find?_eq_none]
    intro x hx
    have := h2 x hx
    simp; omega
  rw [hf, h1]
theorem lineN_all : ∀ l : Bs, (∀ x ∈ l, x ≠ 10) → lineN l = l.length
  | [], _ => rfl
  | c :: l, h => by rw [lineN, if_neg (h c (by simp)), lineN_all l (fun x hx => h x (by simp [hx])), List.length_cons]
theorem takeWhile_all {α : Type} (f : α → Bool) : ∀ (l : List α) (x : α), x ∈ l.takeWhile f → f x = true
  | [], x, h => by simp at h
  | a :: r, x, h => by
    rw [List.takeWhile_cons] at h
    split at h
    · next ha =>
      rcases List.mem_cons.1 h with rfl | h
      · exact ha
      · exact takeWhile_all f r x h
    · cases h
theorem trim_parts (l cs : Bs) : ∃ b, l = Lib.trimRightS l cs ++ b ∧ ∀ x ∈ b, cs.contains x = true := by
  refine ⟨(l.reverse.takeWhile (cs.contains ·)).reverse, ?_, fun x hx => ?_⟩
  · unfold Lib.trimRightS
    rw [← List.reverse_append, List.takeWhile_append_dropWhile, List.reverse_reverse]
  · rw [List.mem_reverse] at hx
    exact takeWhile_all _ _ x hx
theorem lex_blanks : ∀ (l r : Bs) (p : Nat), (∀ x ∈ l, blankB x = true) → lexL (l ++ r) p = lexL r (p + l.length)
  | [], r, p, _ => rfl
  | c :: l, r, p, h => by
    rw [List.cons_append, lexL_blank (h c (by simp)), lex_blanks l r (p + 1) (fun x hx => h x (by simp [hx])), List.length_cons]
    congr 1
    omega
theorem prt_nl {l : Bs} (h : Prt l) : ∀ x ∈ l, x ≠ 10 := fun x hx e => by
  have := (h x hx).1
  subst e
  revert this
  decide
/-- A comment alone. -/
theorem lex_com {c : Bs} (hc : Prt c) (p : Nat) : ∃ t, lexL ([32, 9, 35, 32] ++ c) p = ([t], -1, 0) ∧ t.kind = 6 := by
  have hl : Prt (35 :: 32 :: c) := by
    intro x hx
    simp only [List.mem_cons] at hx
    rcases hx with rfl | rfl | hx
    · decide
    · decide
    · exact hc x hx
  have hn := lineN_all _ (prt_nl hl)
  obtain ⟨b, h1, h2⟩ := trim_parts (35 :: 32 :: c) blanksB
  have hr : remS (35 :: 32 :: c) = Lib.trimRightS (35 :: 32 :: c) blanksB := by
    unfold remS
    rw [hn, List.take_of_length_le (Nat.le_refl _)]
  have ho : one1 (35 :: 32 :: c) = .tok 6 (Lib.trimRightS (35 :: 32 :: c) blanksB).length := by
    simp only [one1, show letB 35 = false from rfl, show dg 35 = false from rfl]
    simp only [Bool.false_eq_true, if_false]
    rw [if_neg (by decide), if_neg (by decide), if_pos (.inl trivial), hr]
    unfold remT
    have hp : Prt (Lib.trimRightS (35 :: 32 :: c) blanksB) := fun x hx => hl x (by rw [h1]; exact List.mem_append_left _ hx)
    rw [wth_prt hp]
  have e : ([32, 9, 35, 32] ++ c : Bs) = 32 :: 9 :: 35 :: 32 :: c := rfl
  rw [e, lexL_blank rfl, lexL_blank rfl, lexL_tok rfl ho]
  have hd : (35 :: 32 :: c).drop (Lib.trimRightS (35 :: 32 :: c) blanksB).length = b := by
    conv => lhs; rw [h1]
    rw [List.drop_append_of_le_length (by rw [← h1]; exact Nat.le_refl _)]
    rw [← h1, List.drop_of_length_le (Nat.le_refl _)]
    rfl
  have hb := lex_blanks b [] (p + 1 + 1 + (Lib.trimRightS (35 :: 32 :: c) blanksB).length) (fun x hx => h2 x hx)
  rw [List.append_nil, lexL_nil] at hb
  rw [hd, hb]
  exact ⟨_, rfl, rfl⟩
/-- What is laid in, and what follows. -/
theorem lex_ins {c : Bs} (hc : Prt c) (B : Bs) (p : Nat) : ∃ t x1 p1 x2 p2, t.kind = 6 ∧ (lexL ([32, 9, 35, 32] ++ c ++ 10 :: 32 :: 10 :: 32 :: 32 :: B) p).1 = t :: ⟨5, x1, p1⟩ :: ⟨5, x2, p2⟩ :: (lexL B 0).1.map (shT (p + c.length + 9)) ∧
    (lexL ([32, 9, 35, 32] ++ c ++ 10 :: 32 :: 10 :: 32 :: 32 :: B) p).2.2 = (lexL B 0).2.2 := by
  obtain ⟨t, h1, h2⟩ := lex_com hc p
  have hn := lex_nl _ ([32, 9, 35, 32] ++ c) p (32 :: 10 :: 32 :: 32 :: B) (Nat.le_refl _) (by rw [h1])
  have ho : one1 (10 :: 32 :: 32 :: B) = .tok 5 1 := by simp [one1, show letB 10 = false from rfl, show dg 10 = false from rfl]
  rw [h1, lexL_blank rfl, lexL_tok rfl ho] at hn
  have hd : (10 :: 32 :: 32 :: B).drop 1 = 32 :: 32 :: B := rfl
  rw [hd, lexL_blank rfl, lexL_blank rfl] at hn
  have hq := lex_shift B.length B 0 (p + c.length + 9) (Nat.le_refl _)
  have he : p + ([32, 9, 35, 32] ++ c : Bs).length + 1 + 1 + 1 + 1 + 1 = 0 + (p + c.length + 9) := by simp; omega
  rw [he, hq] at hn
  rw [hn]
  exact ⟨t, _, _, _, _, h2, rfl, rfl⟩
theorem linesF_ins (size : Int) (t : Tok) (x1 x2 : ByteArray) (p1 p2 : Int) (X : List Tok) (st : List Itm) (h : t.kind = 6) : linesF size (t :: ⟨5, x1, p1⟩ :: ⟨5, x2, p2⟩ :: X) st [] = linesF size X st [] := by
  have hr : ∀ p, readK st [] p false = (st, 0, 0) := fun _ => rfl
  simp only [linesF, h, hr]
  simp
theorem linesF_split (x : ByteArray) (p : Int) : ∀ (ta : List Tok) (st row : List Itm × List Tok), st.1 ≠ [] → (∃ E : List Itm × Int × Int, E.2.2 ≠ 0 ∧ ∀ size tb, linesF size (ta ++ ⟨5, x, p⟩ :: tb) st.1 row.2 = E) ∨ ∃ st2, st2 ≠ [] ∧ ∀ size tb, linesF size (ta ++ ⟨5, x, p⟩ :: tb) st.1 row.2 = linesF size tb st2 []
  | [], (st, u), (v, row), hs => by
    simp only [List.nil_append, linesF] at hs ⊢
    by_cases he : (readK st row p false).2.2 = 0
    · refine .inr ⟨_, readK_ne hs row p false, fun size tb => ?_⟩
      rw [if_neg (by decide), if_pos trivial, if_neg (by simpa using he)]
    · refine .inl ⟨([], (readK st row p false).2), he, fun size tb => ?_⟩
      rw [if_neg (by decide), if_pos trivial, if_pos he]
  | t :: r, (st, u), (v, row), hs => by
    simp only [List.cons_append, linesF] at hs ⊢
    by_cases hk : t.kind = 6 ∨ t.kind = 7
    · simp only [if_pos hk]
      exact linesF_split x p r (st, u) (v, row) hs
    · simp only [if_neg hk]
      by_cases h5 : t.kind = 5
      · simp only [if_pos h5]
        by_cases he : (readK st row t.pos false).2.2 = 0
        · simp only [if_neg (show ¬ (readK st row t.pos false).2.2 ≠ 0 by simpa using he)]
          exact linesF_split x p r (_, u) (v, []) (readK_ne hs _ _ _)
        · simp only [if_pos (show (readK st row t.pos false).2.2 ≠ 0 from he)]
          exact .inl ⟨([], (readK st row t.pos false).2), he, fun _ _ => rfl⟩
      · simp only [if_neg h5]
        exact linesF_split x p r (st, u) (v, row ++ [t]) hs
theorem Ahead.same {st : List Itm} (h : st ≠ []) : Ahead [] st st := by
  cases st with
  | nil => exact absurd rfl h
  | cons a r => exact ⟨a, a, r, rfl, rfl, rfl⟩
theorem Sim.both {q1 q2 : Nat} {R A B : List Itm × Int × Int} (h1 : Sim [] q1 R A) (h2 : Sim [] q2 R B) (h : A.2.2 = 0) : B.2.2 = 0 ∧ B.1 = A.1 := by
  have hr := h1.1.symm.trans h
  exact ⟨h2.1.trans hr, (h2.2.2 hr).1.trans (h1.2.2 hr).1.symm⟩
/-- A comment of its own line, and blanks, ahead of a line. -/
theorem linesP_comment {A B c : Bs} (hA : A = [] ∨ ∃ A', A = A' ++ [10]) (hc : Prt c) (h : (linesP (A ++ B)).2.2 = 0) :
    (linesP (A ++ ([32, 9, 35, 32] ++ c ++ 10 :: 32 :: 10 :: 32 :: 32 :: B))).2.2 = 0 ∧ (linesP (A ++ ([32, 9, 35, 32] ++ c ++ 10 :: 32 :: 10 :: 32 :: 32 :: B))).1 = (linesP (A ++ B)).1 := by
  have hl := linesP_lex h
  rw [linesP_of hl] at h
  rw [linesP_of hl]
  rcases hA with rfl | ⟨A', rfl⟩
  · rw [List.nil_append] at hl h ⊢
    rw [List.nil_append]
    obtain ⟨t, x1, p1, x2, p2, h1, h2, h3⟩ := lex_ins hc B 0
    rw [linesP_of (h3.trans hl), h2, linesF_ins _ _ _ _ _ _ _ _ h1]
    have s1 := linesF_sh (B.length : Nat) 0 [] (lexL B 0).1 [zeroI] [zeroI] [] (Ahead.same (by simp))
    have s2 := linesF_sh (B.length : Nat) (c.length + 9) [] (lexL B 0).1 [zeroI] [zeroI] [] (Ahead.same (by simp))
    have e1 : (lexL B 0).1.map (shT 0) = (lexL B 0).1 := by
      conv => rhs; rw [← List.map_id (lexL B 0).1]
      exact List.map_congr_left (fun t _ => by simp [shT])
    rw [e1, List.map_nil, show ((B.length : Nat) : Int) + ((0 : Nat) : Int) = ((B.length : Nat) : Int) by simp] at s1
    rw [List.map_nil] at s2
    rw [Nat.zero_add, show ((([32, 9, 35, 32] ++ c ++ 10 :: 32 :: 10 :: 32 :: 32 :: B : Bs).length : Nat) : Int) = ((B.length : Nat) : Int) + ((c.length + 9 : Nat) : Int) by simp; omega]
    exact s1.both s2 h
  · have ea : ∀ X : Bs, A' ++ [10] ++ X = A' ++ 10 :: X := fun X => by simp
    rw [ea] at hl h ⊢
    rw [ea]
    have hcut := lex_cut A'.length A' 0 B (Nat.le_refl _) hl
    have hn := fun X => lex_nl A'.length A' 0 X (Nat.le_refl _) hcut
    have hq := lex_shift B.length B 0 (A'.length + 1) (Nat.le_refl _)
    simp only [Nat.zero_add] at hn hq
    rw [hn, hq] at hl
    simp only at hl
    obtain ⟨t, x1, p1, x2, p2, h1, h2, h3⟩ := lex_ins hc B (A'.length + 1)
    rw [linesP_of (by rw [hn, h3]; exact hl), hn, h2]
    rw [hn, hq] at h
    rw [hn, hq]
    simp only at h ⊢
    rcases linesF_split (strL [10]) ((A'.length : Nat) : Int) (lexL A' 0).1 ([zeroI], []) ([], []) (by simp) with ⟨E, e1, e2⟩ | ⟨st2, e1, e2⟩
    · simp only at e2
      rw [e2] at h
      exact absurd h e1
    · simp only at e2
      rw [e2] at h ⊢
      rw [e2, linesF_ins _ _ _ _ _ _ _ _ h1]
      have s1 := linesF_sh (B.length : Nat) (A'.length + 1) [] (lexL B 0).1 st2 st2 [] (Ahead.same e1)
      have s2 := linesF_sh (B.length : Nat) (A'.length + 1 + c.length + 9) [] (lexL B 0).1 st2 st2 [] (Ahead.same e1)
      rw [List.map_nil] at s1 s2
      rw [show ((B.length : Nat) : Int) + ((A'.length + 1 : Nat) : Int) = (((A' ++ 10 :: B : Bs).length : Nat) : Int) by simp; omega] at s1
      rw [show ((B.length : Nat) : Int) + ((A'.length + 1 + c.length + 9 : Nat) : Int) = (((A' ++ 10 :: ([32, 9, 35, 32] ++ c ++ 10 :: 32 :: 10 :: 32 :: 32 :: B) : Bs).length : Nat) : Int) by simp; omega] at s2
      exact s1.both s2 h
end Go.Proofs.YthmmgpbojbjihaaGreatDoor

/- A comment of its own line, ahead of any line, and blanks there, make no difference to the items (layer 13). -/
namespace Go.Proofs.YthmmgpbojbjihaaGreatDoor
open Go.RowKit Go.Tab

/-- Where a line begins. -/
def BegL (s : ByteArray) (x : Nat) : Prop := x < s.size ∧ (x = 0 ∨ ∃ h : x - 1 < s.size, 0 < x ∧ s[x - 1] = 10)
abbrev intV (n : Nat) : Value := .int .i64 (n : Int)
theorem ext_list2 (s : ByteArray) (i j : Nat) : (s.extract i j).data.toList = (s.data.toList.take j).drop i := by
  simp [ByteArray.data_extract, Array.toList_extract, List.extract, List.drop_take]
theorem beg_split {s : ByteArray} {x : Nat} (h : BegL s x) : s.data.toList.take x = [] ∨ ∃ A, s.data.toList.take x = A ++ [10] := by
  obtain ⟨h1, h2⟩ := h
  rcases h2 with rfl | ⟨h3, h4, h5⟩
  · exact .inl rfl
  · refine .inr ⟨s.data.toList.take (x - 1), ?_⟩
    have hl : s.data.toList.length = s.size := size_list2 s
    have e : s.data.toList.take (x - 1 + 1) = s.data.toList.take (x - 1) ++ [s.data.toList[x - 1]'(by omega)] := by
      rw [List.take_succ_eq_append_getElem (by omega)]
    rw [show x - 1 + 1 = x by omega] at e
    rw [e]
    congr 2
/-- What is parsed with a comment, and blanks, laid in. -/
theorem ins_of {s c : ByteArray} {x : Nat} (h : BegL s x) (hc : ∀ j (h : j < c.size), 32 ≤ c[j].toNat ∧ c[j].toNat ≤ 126) (he : (linesP s.data.toList).2.2 = 0) :
    (linesP (s.extract 0 x ++ ⟨#[32, 9, 35, 32]⟩ ++ c ++ ⟨#[10, 32, 10, 32, 32]⟩ ++ s.extract x s.size).data.toList).2.2 = 0 ∧ (linesP (s.extract 0 x ++ ⟨#[32, 9, 35, 32]⟩ ++ c ++ ⟨#[10, 32, 10, 32, 32]⟩ ++ s.extract x s.size).data.toList).1 = (linesP s.data.toList).1 := by
  have hl : s.data.toList.length = s.size := size_list2 s
  have e1 : (s.extract 0 x ++ ⟨#[32, 9, 35, 32]⟩ ++ c ++ ⟨#[10, 32, 10, 32, 32]⟩ ++ s.extract x s.size).data.toList = s.data.toList.take x ++ ([32, 9, 35, 32] ++ c.data.toList ++ 10 :: 32 :: 10 :: 32 :: 32 :: s.data.toList.drop x) := by
    simp only [app_list, ext_list2]
    rw [List.take_of_length_le (l := s.data.toList) (i := s.size) (by omega)]
    simp
  have e2 : s.data.toList.take x ++ s.data.toList.drop x = s.data.toList := List.take_append_drop x _
  have hp : Prt c.data.toList := by
    intro y hy
    obtain ⟨j, hj, rfl⟩ := List.mem_iff_getElem.1 hy
    exact hc j (by rw [← size_list2]; exact hj)
  have := linesP_comment (A := s.data.toList.take x) (B := s.data.toList.drop x) (c := c.data.toList) (beg_split h) hp (by rw [e2]; exact he)
  rw [e2] at this
  rw [e1]
  exact this
theorem Tryz.infoIntZ : (Tryz.prog.info? 3).map (fun i => (i.zero, i.size, i.bytes)) = some (some (.int .i64 0), 1, 8) := by kernel_rfl
set_option maxHeartbeats 4000000 in
set_option maxRecDepth 100000 in
theorem BodyComments_walk (a0 : ByteArray) (a1 : Int) (a2 : ByteArray) (w : World) (w0 : a0.size ≤ maxLen) (w1 : (Lit.int .u8 a1).wf = true) (w2 : a2.size ≤ maxLen) (hT : LexT w) :
    Calls Tryz.prog 4 #[.string a0, .int .u8 a1, .string a2] w fun e w' => e = .returned (.bool true) ∧ Below w.heap.size w w' := by
  have hW := wakes13_any w hT
  unfold maxLen at w0 w2
  have r1 : 0 ≤ a1 ∧ a1 < 256 := by
    rw [Lit.wf, Bool.and_eq_true, decide_eq_true_eq, decide_eq_true_eq] at w1
    have e1 : IntKind.u8.min = 0 := rfl
    have e2 : IntKind.u8.max = 255 := rfl
    omega
  obtain ⟨q, rfl⟩ : ∃ q : Nat, a1 = q := ⟨a1.toNat, by omega⟩
  clear w1
  go_enter Tryz.func4, Tryz.ntmps4
  go_wp2_with fail
  refine hW.mono ?_
  clear hW
  rintro _ v1 ⟨rfl, hb1⟩
  have hT1 := hT.below hb1
  have HB1 := Lib.hid hb1
  clear hb1 hT
  by_cases h0 : 1000 < a0.size
  · go_wp2
    go_ret
    exact ⟨rfl, HB1.out⟩
  by_cases h2 : 50 < a2.size
  · go_wp2
    go_ret
    exact ⟨rfl, HB1.out⟩
  have HT1 := Lib.hid hT1
  clear hT1
  go_wp2_with fail
  go_loopw [7, 29] (fun _ i wr => ∃ k : Nat, k ≤ a2.size ∧ i = .int .i64 (k : Int) ∧ (∀ j (h : j < a2.size), j < k → 32 ≤ a2[j].toNat ∧ a2[j].toNat ≤ 126) ∧ wr = v1) (fun _ i _ => a2.size - (intOf i).toNat)
  case atStart => exact ⟨0, Nat.zero_le _, rfl, fun j _ h => by omega, rfl⟩
  case round =>
    obtain ⟨k, hk, rfl, hall, rfl⟩ := hrel
    have HA := Lib.hid hall
    clear hall
    by_cases hkl : k < a2.size
    · obtain ⟨c, hc⟩ : ∃ c : Nat, (a2[k]'hkl).toNat = c := ⟨_, rfl⟩
      have hc256 : c < 256 := by rw [← hc]; exact UInt8.toNat_lt _
      by_cases hlo : c < 32
      · go_wp2
        go_ret
        exact ⟨rfl, HB1.out⟩
      · by_cases hhi : 126 < c
        · go_wp2
          go_ret
          exact ⟨rfl, HB1.out⟩
        · have HA2 : Hid (∀ j (h : j < a2.size), j < k + 1 → 32 ≤ a2[j].toNat ∧ a2[j].toNat ≤ 126) := Lib.hid (fun j h hj => by
            by_cases e : j = k
            · subst e; omega
            · exact HA.out j h (by omega))
          clear HA
          go_wp2
          go_roundw
          case rel => exact ⟨k + 1, hkl, by go_num, HA2.out, by first | trivial | rfl⟩
          case measure => simp [intOf]; omega
    · obtain rfl : k = a2.size := by omega
      have HC : Hid (∀ j (h : j < a2.size), 32 ≤ a2[j].toNat ∧ a2[j].toNat ≤ 126) := Lib.hid (fun j h => HA.out j h h)
      clear HA
      have hA := bodyParse_any a0 wr HT1.out (by omega)
      go_wp2_with fail
      refine hA.mono ?_
      clear hA
      rintro _ v2 ⟨⟨va, rfl, hIa⟩, hb2⟩
      have HT2 := Lib.hid (HT1.out.below hb2)
      have HB2 := Lib.hid (HB1.out.trans (hb2.mono HB1.out.size))
      clear hb2
      have hins : Hid (∀ x, BegL a0 x → (linesP a0.data.toList).2.2 = 0 → (linesP (a0.extract 0 x ++ ⟨#[32, 9, 35, 32]⟩ ++ a2 ++ ⟨#[10, 32, 10, 32, 32]⟩ ++ a0.extract x a0.size).data.toList).2.2 = 0 ∧ (linesP (a0.extract 0 x ++ ⟨#[32, 9, 35, 32]⟩ ++ a2 ++ ⟨#[10, 32, 10, 32, 32]⟩ ++ a0.extract x a0.size).data.toList).1 = (linesP a0.data.toList).1) := Lib.hid (fun x hx he => ins_of hx HC.out he)
      generalize linesP a0.data.toList = RA at *
      obtain ⟨la, pa, ea⟩ := RA
      simp only at hIa hins
      have HIA := Lib.hid hIa
      obtain ⟨aa, ca, rfl, -⟩ := hIa.len
      clear hIa HC
      by_cases hea : ea = 0
      · subst hea
        have hbeg : Hid (∀ x, BegL a0 x → (linesP (a0.extract 0 x ++ ⟨#[32, 9, 35, 32]⟩ ++ a2 ++ ⟨#[10, 32, 10, 32, 32]⟩ ++ a0.extract x a0.size).data.toList).2.2 = 0 ∧ (linesP (a0.extract 0 x ++ ⟨#[32, 9, 35, 32]⟩ ++ a2 ++ ⟨#[10, 32, 10, 32, 32]⟩ ++ a0.extract x a0.size).data.toList).1 = la) := Lib.hid (fun x hx => hins.out x hx rfl)
        clear hins
        generalize la.length = nl at *
        go_wp2_with fail
        go_loopw [11, 12, 53] (fun v _ i wr => ∃ (k : Nat) (E : List Nat), k ≤ a0.size ∧ i = .int .i64 (k : Int) ∧ OwnOf intV 3 v2.heap.size wr v E ∧ (∀ x ∈ E, BegL a0 x) ∧ E.length ≤ k ∧ Below v2.heap.size v2 wr) (fun _ _ i _ => a0.size - (intOf i).toNat)
        case atStart => exact ⟨0, [], Nat.zero_le _, rfl, OwnOf.nil, fun x h => (by cases h), Nat.le_refl _, Below.refl _ _⟩
        case round =>
          obtain ⟨k, E, hk, rfl, hown, hE, hEl, hbw⟩ := hrel
          obtain ⟨ra, rc, rfl, -⟩ := hown.row.len
          by_cases hkl : k < a0.size
          · have HE := Lib.hid (And.intro hE hbw)
            have hs2 := hbw.size
            clear hE hbw
            by_cases hk0 : k = 0
            · subst hk0
              have HBg : Hid (BegL a0 0) := Lib.hid ⟨hkl, .inl rfl⟩
              go_wp2_with (with_reducible first | refine stop_append ?_)
              refine Stop.out ?_
              have hlit := OwnOf.lit (f := intV) (E := 3) (base := wr.heap.size) (w := wr) [0] (Nat.le_refl _) (by simp [maxLen])
              refine wpList_append_row (f := intV) rfl _ _ _ rfl v2.heap.size 3 8 (.int .i64 0) Tryz.underlying29 Tryz.infoIntZ rfl (fun _ => rfl) E [0] (by exact hown.alloc _) (by first | exact hlit.row | (have := hlit.row; push_cast at this; exact this)) (by simp; unfold maxLen; omega) (by simp; omega) (by simp; omega) v2 (by exact (HE.out.2.alloc hs2 _)) ?_
              intro v5 w5 hown5 hb5 hg5
              obtain ⟨r5, c5, rfl, -⟩ := hown5.row.len
              have H5 := Lib.hid (And.intro hown5 (And.intro hb5 (show (E ++ [0]).length ≤ 0 + 1 by rw [List.length_append, List.length_singleton]; omega)))
              clear hlit hown hown5 hb5 hg5
              go_wp2
              go_roundw
              case rel => exact ⟨0 + 1, E ++ [0], hkl, by go_num, by simpa using H5.out.1, (fun x hx => by
                rcases List.mem_append.1 hx with hx | hx
                · exact HE.out.1 x hx
                · simp at hx; subst hx; exact HBg.out), H5.out.2.2, H5.out.2.1⟩
              case measure => simp [intOf]; omega
            · obtain ⟨m, hm⟩ : ∃ m, k = m + 1 := ⟨k - 1, by omega⟩
              subst hm
              obtain ⟨c, hc⟩ : ∃ c : Nat, (a0[m]'(by omega)).toNat = c := ⟨_, rfl⟩
              have hc256 : c < 256 := by rw [← hc]; exact UInt8.toNat_lt _
              have hml : m < a0.size := by omega
              by_cases h10 : c = 10
              · subst h10
                have HBg : Hid (BegL a0 (m + 1)) := Lib.hid ⟨hkl, .inr ⟨by simpa using hml, by omega, by
                  have : a0[m + 1 - 1]'(by simpa using hml) = a0[m] := rfl
                  rw [this]
                  exact UInt8.toNat_inj.1 hc⟩⟩
                have e1 : ((m : Int) + 1 == 0) = false := by simp; omega
                have kq : IntKind.i64.wrap ((m : Int) + 1 - 1) = (m : Int) := by rw [IntWalk.i64_in _ (by omega)]; omega
                go_wp2_with (with_reducible first | refine stop_append ?_)
                refine Stop.out ?_
                have hlit := OwnOf.lit (f := intV) (E := 3) (base := wr.heap.size) (w := wr) [m + 1] (Nat.le_refl _) (by simp [maxLen])
                refine wpList_append_row (f := intV) rfl _ _ _ rfl v2.heap.size 3 8 (.int .i64 0) Tryz.underlying29 Tryz.infoIntZ rfl (fun _ => rfl) E [m + 1] (by exact hown.alloc _) (by first | exact hlit.row | (have := hlit.row; push_cast at this; exact this)) (by simp; unfold maxLen; omega) (by simp; omega) (by simp; omega) v2 (by exact (HE.out.2.alloc hs2 _)) ?_
                intro v5 w5 hown5 hb5 hg5
                obtain ⟨r5, c5, rfl, -⟩ := hown5.row.len
                have H5 := Lib.hid (And.intro hown5 (And.intro hb5 (show (E ++ [m + 1]).length ≤ m + 1 + 1 by rw [List.length_append, List.length_singleton]; omega)))
                clear hlit hown hown5 hb5 hg5
                go_wp2
                go_roundw
                case rel => exact ⟨m + 1 + 1, E ++ [m + 1], hkl, by go_num, by simpa using H5.out.1, (fun x hx => by
                  rcases List.mem_append.1 hx with hx | hx
                  · exact HE.out.1 x hx
                  · simp at hx; subst hx; exact HBg.out), H5.out.2.2, H5.out.2.1⟩
                case measure => simp [intOf]; omega
              · have e1 : ((m : Int) + 1 == 0) = false := by simp; omega
                have e10 : ((c : Int) == 10) = false := by simp; omega
                have kq : IntKind.i64.wrap ((m : Int) + 1 - 1) = (m : Int) := by rw [IntWalk.i64_in _ (by omega)]; omega
                have H5 := Lib.hid (And.intro hown (show E.length ≤ m + 1 + 1 by omega))
                clear hown
                go_wp2
                go_roundw
                case rel => exact ⟨m + 1 + 1, E, hkl, by go_num, H5.out.1, HE.out.1, H5.out.2, HE.out.2⟩
                case measure => simp [intOf]; omega
          · obtain rfl : k = a0.size := by omega
            have HE := Lib.hid (And.intro hE hbw)
            have HBW := Lib.hid (HB2.out.trans (hbw.mono HB2.out.size))
            by_cases hE0 : E.length = 0
            · have hn : ((E.length : Int) == 0) = true := by simp [hE0]
              clear hE hbw hown hEl hE0
              generalize E.length = n at *
              go_wp2_with fail
              go_ret
              exact ⟨rfl, HBW.out⟩
            · have hn : ((E.length : Int) == 0) = false := by simpa using hE0
              have hlt : q % E.length < E.length := Nat.mod_lt _ (by omega)
              obtain ⟨b, off, rfl, hbl, hcell⟩ := hown.row.at hlt
              have hcx : wr.cell? ⟨b, off + q % E.length, none⟩ = some (.int .i64 ((E[q % E.length] : Nat) : Int)) := hcell _ hlt
              have hBx := hE _ (List.getElem_mem hlt)
              have HBX := Lib.hid (And.intro hBx (hbeg.out _ hBx))
              generalize E[q % E.length] = x at *
              have hmod : Int.tmod (q : Int) (E.length : Int) = ((q % E.length : Nat) : Int) := by rw [Int.tmod_eq_emod_of_nonneg (by omega)]; simp
              clear hE hbw hown hEl hcell hBx hbeg
              generalize q % E.length = qm at *
              generalize E.length = n at *
              have hxs : x ≤ a0.size := Nat.le_of_lt HBX.out.1.1
              go_wp2_with fail
              have hkb : 0 ≤ (x : Int) ∧ (x : Int) ≤ (a0.size : Int) := by omega
              obtain ⟨S1, hS1⟩ : ∃ S1, a0.extract 0 x = S1 := ⟨_, rfl⟩
              obtain ⟨S2, hS2⟩ : ∃ S2, a0.extract x a0.size = S2 := ⟨_, rfl⟩
              have hS1s : S1.size ≤ 1000 := by rw [← hS1, ByteArray.size_extract]; omega
              have hS2s : S2.size ≤ 1000 := by rw [← hS2, ByteArray.size_extract]; omega
              have hres := HBX.out.2
              rw [hS1, hS2] at hres
              have hC : ∀ W, LexT W → Calls Tryz.prog 7 #[.string (S1 ++ ⟨#[32, 9, 35, 32]⟩ ++ a2 ++ ⟨#[10, 32, 10, 32, 32]⟩ ++ S2)] W fun e w' => (∃ (vx : Value) (px : Int), e = .returned (.tuple #[vx, .int .i64 px, .int .i64 0]) ∧ ItmsAt w' vx la) ∧ Below W.heap.size W w' := fun W h => by
                have := bodyParse_any (S1 ++ ⟨#[32, 9, 35, 32]⟩ ++ a2 ++ ⟨#[10, 32, 10, 32, 32]⟩ ++ S2) W h (by simp only [ByteArray.size_append]; show _ + 4 + _ + 5 + _ ≤ _; omega)
                refine this.mono ?_
                rintro e w' ⟨⟨v, h1, h2⟩, h3⟩
                rw [hres.1] at h1
                rw [hres.2] at h2
                exact ⟨⟨v, _, h1, h2⟩, h3⟩
              have HTD : Hid (LexT wr.drew) := Lib.hid ((HT2.out.below HE.out.2).below (Below.drew (Below.refl _ _)))
              have HID : Hid (ItmsAt wr.drew (.slice aa nl ca) la) := Lib.hid ((HIA.out.below HE.out.2).below (Below.drew (Below.refl _ _)))
              have Q1 := Lib.hid (show ¬ 9223372036854775807 < S1.size + 4 by omega)
              have Q2 := Lib.hid (show ¬ 9223372036854775807 < S1.size + 4 + a2.size by omega)
              have Q3 := Lib.hid (show ¬ 9223372036854775807 < S1.size + 4 + a2.size + 5 by omega)
              have Q4 := Lib.hid (show ¬ 9223372036854775807 < S1.size + 4 + a2.size + 5 + S2.size by omega)
              clear hres hS1s hS2s hcx hmod hlt hn hE0 hxs hbl
              go_cut [14, 16] (fun v f wc => ∃ (ax : Option Addr) (nx cx : Nat), v = .slice ax nx cx ∧ f = .int .i64 0 ∧ ItmsAt wc (.slice ax nx cx) la ∧ ItmsAt wc (.slice aa nl ca) la ∧ Below w.heap.size w wc)
              case first =>
                have q1 := Q1.out
                have q2 := Q2.out
                have q3 := Q3.out
                have q4 := Q4.out
                clear Q1 Q2 Q3 Q4 r1 h0 h2 w0 w2 hk hkl
                go_region_held3 (fun _ => True) (exact trivial) (first
                  | (go_at_call 7; (with_reducible refine (hC _ HTD.out).mono ?_); rintro _ w9 ⟨⟨vx, px, rfl, hIx⟩, hb9⟩; have HB9 := Lib.hid ((Below.drew HBW.out).trans (hb9.mono HBW.out.size)); have HI9 := Lib.hid (And.intro hIx (HID.out.below hb9)); obtain ⟨ax, cx, rfl, -⟩ := hIx.len; clear hIx hb9))
                all_goals
                  clear q1 q2 q3 q4
                  go_wp2_with fail
                  go_meet
                  case rel => exact ⟨_, _, _, rfl, rfl, HI9.out.1, HI9.out.2, HB9.out⟩
              case rest =>
                obtain ⟨ax, nx, cx, rfl, rfl, hI1, hI2, hbb⟩ := hcut
                have HBB := Lib.hid hbb
                obtain ⟨bb, hbt⟩ := some_bool (la = la)
                obtain rfl : bb = true := hbt.2 rfl
                have hR := SameP.fix hbt (rISame_any la la _ _ _ hI2 hI1)
                clear hI1 hI2 hbb hbt Q1 Q2 Q3 Q4 hC HTD HID
                go_wp2_with fail
                refine hR.mono ?_
                clear hR
                rintro _ w9 ⟨rfl, hb9⟩
                have HB9 := Lib.hid (HBB.out.trans (hb9.mono HBB.out.size))
                clear hb9
                go_wp2
                go_ret
                exact ⟨rfl, HB9.out⟩
      · have e0 : (ea != 0) = true := by simpa using hea
        clear hea hins
        go_wp2
        go_ret
        exact ⟨rfl, HB2.out⟩
end Go.Proofs.YthmmgpbojbjihaaGreatDoor

/- What a row's list of laid variables gives, entry by entry, over any program: a table of numbers, a table of tables, an error's place. -/
namespace Go.Tab
open Go.Lib

/-- An entry of the list: its variable reads as the datum. -/
def LaidAt (P : Program) (W : World) (n : String) (d : DataW Unit) : Prop :=
  ∃ g t cs fuel p, P.globalNamed n = some g ∧ (P.globals[g]?).map (·.type) = some t ∧ W.var? P n = some cs ∧ DataW.trod (fun _ => ()) P W 0 (fun _ => true) false fuel t cs.toList = some (d, p)
theorem laid_vars {P : Program} {W : World} : ∀ {L : List (String × DataW Unit)} {ps : List MemPlace}, DataW.LaidVars P W L ps → ∀ n d, (n, d) ∈ L → LaidAt P W n d
  | [], _, _, _, _, h => by cases h
  | (n', d') :: L, _, h0, n, d, h => by
    obtain ⟨g, t, cs, fuel, p, q, h1, h2, h3, h4, h5, _⟩ := h0
    rcases List.mem_cons.1 h with h | h
    · cases h; exact ⟨g, t, cs, fuel, p, h1, h2, h3, h4⟩
    · exact laid_vars h5 n d h
theorem laid_of_met {P : Program} {W : World} {L : List (String × DataW Unit)} (h : laidMet P L W) {n : String} {d : DataW Unit} (hm : (n, d) ∈ L) : LaidAt P W n d := by
  obtain ⟨ps, h1, _⟩ := h
  exact laid_vars h1 n d hm
/-- A table of numbers. -/
theorem LaidAt.tab {P : Program} {W : World} {name : String} {k : IntKind} {zs : List Int} {g : Nat} {t e : TypeId} {n : Nat}
    (hg : P.globalNamed name = some g) (hty : (P.globals[g]?).map (·.type) = some t) (ht : P.underlying t = some (.array n e)) (he : P.underlying e = some (.int k)) (hce : P.cellsOf e = 1) (hct : P.cellsOf t = n)
    (h : LaidAt P W name (tabData k zs)) : TabIs P W name k zs := by
  obtain ⟨g', t', cs, fuel, p, hg', ht', hvar, hd⟩ := h
  obtain rfl := Option.some.inj (hg.symm.trans hg')
  obtain rfl := Option.some.inj (hty.symm.trans ht')
  unfold TabIs
  rw [hvar, ← cells_of_tab ht he hce hct hd]
/-- An array of arrays of numbers that reads as the table's rows. -/
theorem cells_of_tabs {H : Type} {enc : TypeId × Value → H} {P : Program} {w : World} {base : Nat} {sp : Nat → Bool} {held : Bool} {fuel : Nat} {t e i : TypeId} {n m : Nat} {k : IntKind} {cs : List Value} {zss : List (List Int)} {p : List MemPlace}
    (ht : P.underlying t = some (.array n e)) (he : P.underlying e = some (.array m i)) (hi : P.underlying i = some (.int k)) (hci : P.cellsOf i = 1) (hce : P.cellsOf e = m) (hct : P.cellsOf t = n * m)
    (h : DataW.trod enc P w base sp held fuel t cs = some (.agg (zss.map fun zs => tabData k zs), p)) : ∀ a (ha : a < zss.length), ((cs.drop (a * m)).take m) = zss[a].map fun z => Value.int k z := by
  cases fuel with
  | zero => simp [DataW.trod] at h
  | succ fuel =>
    simp only [DataW.trod, ht, hce] at h
    split at h
    · rename_i hl
      obtain ⟨xs, hm, hx⟩ := Option.map_eq_some_iff.1 h
      have hxs : xs.map (·.1) = zss.map fun zs => (tabData k zs : DataW H) := by
        have := congrArg Prod.fst hx
        simpa using this
      have hxl : xs.length = n := by simpa using mapM_length hm
      have hzl : zss.length = n := by
        have := congrArg List.length hxs
        simp at this
        omega
      intro a ha
      obtain ⟨b, hb, hf⟩ := mapM_at hm a a (by simp [hzl ▸ ha])
      have h2 : (xs.map (·.1))[a]? = some b.1 := by simp [hb]
      rw [hxs] at h2
      simp only [List.getElem?_map] at h2
      rw [List.getElem?_eq_getElem ha] at h2
      have h3 : b.1 = tabData k zss[a] := (Option.some.inj h2).symm
      have h4 : DataW.trod enc P w base sp held fuel e ((cs.drop (a * m)).take m) = some (tabData k zss[a], b.2) := by rw [hf, ← h3]
      exact cells_of_tab he hi hci hce h4
    · cases h
/-- A table of tables: what a walk reads at a place of it. -/
theorem LaidAt.tabs {P : Program} {W : World} {name : String} {k : IntKind} {zss : List (List Int)} {g : Nat} {t e i : TypeId} {n m : Nat}
    (hg : P.globalNamed name = some g) (hty : (P.globals[g]?).map (·.type) = some t) (ht : P.underlying t = some (.array n e)) (he : P.underlying e = some (.array m i)) (hi : P.underlying i = some (.int k)) (hci : P.cellsOf i = 1) (hce : P.cellsOf e = m) (hct : P.cellsOf t = n * m)
    (h : LaidAt P W name (.agg (zss.map fun zs => tabData k zs))) (a b : Nat) (ha : a < zss.length) (hb : b < zss[a].length) (hbm : b < m) : W.cell? ⟨g, a * m + b, none⟩ = some (.int k zss[a][b]) := by
  obtain ⟨g', t', cs, fuel, p, hg', ht', hvar, hd⟩ := h
  obtain rfl := Option.some.inj (hg.symm.trans hg')
  obtain rfl := Option.some.inj (hty.symm.trans ht')
  have h1 := cells_of_tabs ht he hi hci hce hct hd a ha
  have h2 : cs[a * m + b]? = some (.int k zss[a][b]) := by
    have := congrArg (·[b]?) h1
    simp only [List.getElem?_take, List.getElem?_drop, List.getElem?_map] at this
    rw [if_pos hbm, List.getElem?_eq_getElem hb] at this
    simpa using this
  have h3 := World.var?_cell hg hvar (a * m + b)
  rw [h3, h2]
/-- A variable of an interface type that holds a value. -/
theorem LaidAt.iface {P : Program} {W : World} {name : String} {s : String} {x : DataW Unit} {g : Nat} {t : TypeId} {ms : Array (String × TypeId)}
    (hg : P.globalNamed name = some g) (hty : (P.globals[g]?).map (·.type) = some t) (ht : P.underlying t = some (.interface ms))
    (h : LaidAt P W name (.iface s x)) : ∃ tp p, W.var? P name = some #[.iface tp p] := by
  obtain ⟨g', t', cs, fuel, p, hg', ht', hvar, hd⟩ := h
  obtain rfl := Option.some.inj (hg.symm.trans hg')
  obtain rfl := Option.some.inj (hty.symm.trans ht')
  cases fuel with
  | zero => simp [DataW.trod] at hd
  | succ fuel =>
    unfold DataW.trod at hd
    simp only [ht] at hd
    have hcs : ∃ u v, cs.toList = [.iface u v] := by
      split at hd
      all_goals first | (simp at hd; done) | skip
      all_goals first | (rename_i hm; simp at hm; done) | skip
      all_goals first | exact ⟨_, _, ‹_›⟩ | simp_all
    obtain ⟨u, v, hcs⟩ := hcs
    refine ⟨u, v, ?_⟩
    rw [hvar]
    congr 1
    exact Array.toList_inj.1 hcs
end Go.Tab
namespace Go.Tab
/-- The list, where no entry is a function's handle. -/
theorem met_of {P : Program} {L : List (String × DataW Unit)} {W : World} (h : laidMetH P L W) (hf : (L.filter fun x => x.2.handleName?.isSome) = []) : laidMet P L W := by
  unfold laidMetH at h
  rw [hf] at h
  exact h
/-- A datum's cells, where it is made of numbers alone. -/
def flatD : Nat → DataW Unit → List Value
  | 0, _ => []
  | _ + 1, .lit (.int k z) => [.int k z]
  | n + 1, .agg xs => xs.flatMap (flatD n)
  | _, _ => []
/-- A heap in which a listed variable is laid. -/
def layVar (P : Program) (h : Array Obj) (nd : String × DataW Unit) : Array Obj :=
  match P.globalNamed nd.1, flatD 4 nd.2 with
  | some g, v :: vs => h.modify g fun o => match o with
    | .cells _ t f => .cells (v :: vs).toArray t f
    | o => o
  | _, _ => h
def layAll (P : Program) (L : List (String × DataW Unit)) (h : Array Obj) : Array Obj := L.foldl (layVar P) h
end Go.Tab

/- What a row's list of laid variables gives, over any program: a table of texts; a heap in which numbers and texts are laid. -/
namespace Go.Tab
open Go.Lib

/-- An array of texts that reads as the table holds the table's texts, cell for cell. -/
theorem cells_of_strs {H : Type} {enc : TypeId × Value → H} {P : Program} {w : World} {base : Nat} {sp : Nat → Bool} {held : Bool} {fuel : Nat} {t e : TypeId} {n : Nat} {cs : List Value} {zs : List (List UInt8)} {p : List MemPlace}
    (ht : P.underlying t = some (.array n e)) (he : P.underlying e = some .string) (hce : P.cellsOf e = 1) (hct : P.cellsOf t = n)
    (h : DataW.trod enc P w base sp held fuel t cs = some (.agg (zs.map fun z => (.lit (.string z) : DataW H)), p)) : ∀ i (hi : i < zs.length), cs[i]? = some (Value.string ⟨zs[i].toArray⟩) := by
  cases fuel with
  | zero => simp [DataW.trod] at h
  | succ fuel =>
    simp only [DataW.trod, ht, hce, hct, Nat.mul_one] at h
    split at h
    · rename_i hl
      obtain ⟨xs, hm, hx⟩ := Option.map_eq_some_iff.1 h
      have hxs : xs.map (·.1) = zs.map fun z => (DataW.lit (.string z) : DataW H) := by
        have := congrArg Prod.fst hx
        simpa using this
      have hxl : xs.length = n := by simpa using mapM_length hm
      have hzl : zs.length = n := by
        have := congrArg List.length hxs
        simp at this
        omega
      intro i hi
      obtain ⟨b, hb, hf⟩ := mapM_at hm i i (by simp [hzl ▸ hi])
      obtain ⟨s, hc, rfl, _⟩ := DataW.trod_string he hf
      have h1 : cs[i]? = some (.string s) := by
        have := congrArg (·[0]?) hc
        simpa [List.getElem?_take, List.getElem?_drop] using this
      have h2 : (xs.map (·.1))[i]? = some (DataW.lit (.string s.data.toList) : DataW H) := by simp [hb]
      rw [hxs] at h2
      simp only [List.getElem?_map, List.getElem?_eq_getElem hi, Option.map_some, Option.some.injEq, DataW.lit.injEq, Lit.string.injEq] at h2
      rw [h1, h2]
    · cases h
theorem LaidAt.strs {P : Program} {W : World} {name : String} {zs : List (List UInt8)} {g : Nat} {t e : TypeId} {n : Nat}
    (hg : P.globalNamed name = some g) (hty : (P.globals[g]?).map (·.type) = some t) (ht : P.underlying t = some (.array n e)) (he : P.underlying e = some .string) (hce : P.cellsOf e = 1) (hct : P.cellsOf t = n)
    (h : LaidAt P W name (.agg (zs.map fun z => .lit (.string z)))) (i : Nat) (hi : i < zs.length) : W.cell? ⟨g, i, none⟩ = some (.string ⟨zs[i].toArray⟩) := by
  obtain ⟨g', t', cs, fuel, p, hg', ht', hvar, hd⟩ := h
  obtain rfl := Option.some.inj (hg.symm.trans hg')
  obtain rfl := Option.some.inj (hty.symm.trans ht')
  have h2 := cells_of_strs ht he hce hct hd i hi
  have h3 := World.var?_cell hg hvar i
  rw [h3]
  simpa using h2
/-- A datum's cells, where it is made of numbers and texts. -/
def flatS : Nat → DataW Unit → List Value
  | 0, _ => []
  | _ + 1, .lit (.int k z) => [.int k z]
  | _ + 1, .lit (.string s) => [.string ⟨s.toArray⟩]
  | n + 1, .agg xs => xs.flatMap (flatS n)
  | _, _ => []
def layVarS (P : Program) (h : Array Obj) (nd : String × DataW Unit) : Array Obj :=
  match P.globalNamed nd.1, flatS 4 nd.2 with
  | some g, v :: vs => h.modify g fun o => match o with
    | .cells _ t f => .cells (v :: vs).toArray t f
    | o => o
  | _, _ => h
def layAllS (P : Program) (L : List (String × DataW Unit)) (h : Array Obj) : Array Obj := L.foldl (layVarS P) h
end Go.Tab

/- What the rows' lists of layers 12 and up give: the tables that the lexer reads (layer 12). -/
namespace Go.Proofs.YthmmgpbojbjihaaGreatDoor
open Go.RowKit Go.Tab

def stepsZ : List (List Int) := [[1, 9, 2, 3, 9, 9, 9], [9, 9, 2, 3, 9, 9, 9], [9, 9, 9, 9, 4, 6, 9], [9, 9, 3, 3, 4, 6, 9], [9, 9, 5, 5, 9, 9, 9], [9, 9, 5, 5, 9, 6, 9], [7, 7, 8, 8, 9, 9, 9], [9, 9, 8, 8, 9, 9, 9], [9, 9, 8, 8, 9, 9, 9]]
theorem steps_are : ∀ j : Fin 63, ((stepsZ.getD (j.val / 7) []).getD (j.val % 7) 0) = ((stepsN.getD j.val 9 : Nat) : Int) := by decide +kernel
theorem gSteps : Tryz.prog.globalNamed "tabularium/num.steps" = some 2 := by kernel_rfl
theorem tSteps : (Tryz.prog.globals[2]?).map (·.type) = some 101 := by kernel_rfl
theorem c1 : Tryz.prog.cellsOf 3 = 1 := by kernel_rfl
theorem c7 : Tryz.prog.cellsOf 100 = 7 := by kernel_rfl
theorem c63 : Tryz.prog.cellsOf 101 = 9 * 7 := by kernel_rfl
theorem dSteps : (Rows.laid_tabularium_num_steps : DataW Unit) = .agg (stepsZ.map fun zs => Lib.tabData .i64 zs) := by kernel_rfl
theorem rows7 : ∀ a : Fin 9, (stepsZ.getD a.val []).length = 7 := by decide +kernel
theorem gTab : Tryz.prog.globalNamed "tabularium/utf.sizes" = some 3 := by kernel_rfl
theorem gTabType : (Tryz.prog.globals[3]?).map (·.type) = some 141 := by kernel_rfl
theorem cellsTab : Tryz.prog.cellsOf 141 = 32 := by kernel_rfl
def sizesZ : List Int := [1, 1, 1, 1, 1, 1, 1, 1, 1, 1, 1, 1, 1, 1, 1, 1, 0, 0, 0, 0, 0, 0, 0, 0, 2, 2, 2, 2, 3, 3, 4, 0]
theorem sizes_are : ∀ j : Fin 32, sizesZ.getD j.val 0 = ((sizeOf8 (8 * j.val) : Nat) : Int) := by decide +kernel
theorem dSizes : (Rows.laid_tabularium_utf_sizes : DataW Unit) = Lib.tabData .i64 sizesZ := by kernel_rfl
theorem gDbl : Tryz.prog.globalNamed "tabularium/lex.doubles" = some 0 := by kernel_rfl
theorem tDbl : (Tryz.prog.globals[0]?).map (·.type) = some 95 := by kernel_rfl
theorem cStr1 : Tryz.prog.cellsOf 9 = 1 := by kernel_rfl
theorem c6 : Tryz.prog.cellsOf 95 = 6 := by kernel_rfl
theorem dDbl : (Rows.laid_tabularium_lex_doubles : DataW Unit) = .agg (dbls.map fun z => .lit (.string z)) := by kernel_rfl
theorem dbl6 : dbls.length = 6 := by decide +kernel
theorem lexT_of {L : List (String × DataW Unit)} {W : World} (hL : laidMetH Tryz.prog L W) (hf : (L.filter fun x => x.2.handleName?.isSome) = []) (hsh : W.ShapedOpen Tryz.prog)
    (h1 : ("tabularium/utf.sizes", Rows.laid_tabularium_utf_sizes) ∈ L) (h2 : ("tabularium/num.steps", Rows.laid_tabularium_num_steps) ∈ L) (h3 : ("tabularium/lex.doubles", Rows.laid_tabularium_lex_doubles) ∈ L) : LexT W := by
  have met := met_of hL hf
  have l1 := laid_of_met met h1
  have l2 := laid_of_met met h2
  have l3 := laid_of_met met h3
  rw [dSizes] at l1
  rw [dSteps] at l2
  rw [dDbl] at l3
  refine ⟨fun j hj => ?_, fun j hj => ?_, fun j hj => ?_, ?_⟩
  · have t := l1.tab gTab gTabType Tryz.underlying141 Tryz.underlying3 c1 cellsTab
    have hc := t.cell gTab j (by simpa [sizesZ] using hj)
    rw [hc, show sizesZ.getD j 0 = _ from sizes_are ⟨j, hj⟩]
  · have ha : j / 7 < stepsZ.length := by show j / 7 < 9; omega
    have hg : stepsZ.getD (j / 7) [] = stepsZ[j / 7] := by rw [List.getD_eq_getElem?_getD, List.getElem?_eq_getElem ha]; rfl
    have hr := rows7 ⟨j / 7, ha⟩
    simp only [hg] at hr
    have hb : j % 7 < (stepsZ[j / 7]).length := by rw [hr]; omega
    have h3 := l2.tabs gSteps tSteps Tryz.underlying101 Tryz.underlying100 Tryz.underlying3 c1 c7 c63 (j / 7) (j % 7) ha hb (by omega)
    rw [show j / 7 * 7 + j % 7 = j by omega] at h3
    rw [h3]
    have h4 := steps_are ⟨j, hj⟩
    simp only [hg] at h4
    rw [List.getD_eq_getElem?_getD, List.getElem?_eq_getElem hb] at h4
    rw [← h4]
    rfl
  · have h := l3.strs gDbl tDbl Tryz.underlying95 Tryz.underlying9 cStr1 c6 j (by rw [dbl6]; exact hj)
    rw [h, List.getD_eq_getElem?_getD, List.getElem?_eq_getElem (by rw [dbl6]; exact hj)]
    rfl
  · exact cell_of_shapedOpen_int (t := 3) (zero := #[.int .i64 0]) hsh (by decide +kernel) (by kernel_rfl) rfl (by kernel_rfl) (by kernel_rfl) Tryz.underlying3
theorem tab_of_BodyJoins {W : World} (hL : laidMetH Tryz.prog Rows.bodyJoinsRow.laid W) (hsh : W.ShapedOpen Tryz.prog) : LexT W := lexT_of hL (by kernel_rfl) hsh (.tail _ (.head _)) (.tail _ (.tail _ (.head _))) (.tail _ (.tail _ (.tail _ (.head _))))
theorem tab_of_BodyComments {W : World} (hL : laidMetH Tryz.prog Rows.bodyCommentsRow.laid W) (hsh : W.ShapedOpen Tryz.prog) : LexT W := lexT_of hL (by kernel_rfl) hsh (.tail _ (.head _)) (.tail _ (.tail _ (.head _))) (.tail _ (.tail _ (.tail _ (.head _))))
theorem tab_of_BodySame {W : World} (hL : laidMetH Tryz.prog Rows.bodySameRow.laid W) (hsh : W.ShapedOpen Tryz.prog) : LexT W := lexT_of hL (by kernel_rfl) hsh (.tail _ (.head _)) (.tail _ (.tail _ (.head _))) (.tail _ (.tail _ (.tail _ (.head _))))
end Go.Proofs.YthmmgpbojbjihaaGreatDoor
