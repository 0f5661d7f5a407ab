/- The walk of UtfOrder: it returns true. -/
import Derived.Test.YthlmnbklhjcpnaaDoorUtfN
import Derived.Test.YthlmnbklhjcpnaaDoorUtfQ
namespace Go.Proofs.YthlmnbklhjcpnaaDoor
open Go.RowKit Go.Tab

theorem less_bytes : ∀ (l m : List UInt8), Op.bytesLess l m = lessN (l.map UInt8.toNat) (m.map UInt8.toNat)
  | _, [] => by simp [Op.bytesLess, lessN]
  | [], b :: m => by simp [Op.bytesLess, lessN]
  | a :: l, b :: m => by
    have ih := less_bytes l m
    simp only [Op.bytesLess, List.map_cons, lessN, ih]
    have e1 : decide (a < b) = decide (a.toNat < b.toNat) := by simp only [decide_eq_decide]; exact UInt8.lt_iff_toNat_lt
    have e2 : (a == b) = decide (a.toNat = b.toNat) := by
      rw [Bool.eq_iff_iff]; simp [UInt8.toNat_inj]
    rw [e1, e2]
theorem less_str (a b : ByteArray) : Op.bytesLess a.toList b.toList = lessN (bs a) (bs b) := by
  rw [less_bytes, ByteArray.toList_eq, ByteArray.toList_eq]; rfl
theorem bytesOf_map (p : List (Nat × Nat)) : bytesOf p = (p.map (·.2)).flatMap putN := by
  unfold bytesOf; rw [List.flatMap_map]
theorem bytesOf_split (X : List (Nat × Nat)) {k : Nat} (hk : k < X.length) : bytesOf X = bytesOf (X.take k) ++ (putN X[k].2 ++ bytesOf (X.drop (k + 1))) := by
  have e : X = X.take k ++ (X[k] :: X.drop (k + 1)) := by rw [← List.drop_eq_getElem_cons hk, List.take_append_drop]
  refine (congrArg bytesOf e).trans ?_
  unfold bytesOf
  rw [List.flatMap_append, List.flatMap_cons]
theorem order_diff {X Y : List (Nat × Nat)} (hX : ∀ x ∈ X, isSc x.2 = true) (hY : ∀ x ∈ Y, isSc x.2 = true) {k : Nat} (hk : k < X.length) (hk2 : k < Y.length)
    (hp : (X.take k).map (·.2) = (Y.take k).map (·.2)) (hlt : X[k].2 < Y[k].2) : lessN (bytesOf X) (bytesOf Y) = true ∧ lessN (bytesOf Y) (bytesOf X) = false := by
  rw [bytesOf_split X hk, bytesOf_split Y hk2, bytesOf_map (X.take k), bytesOf_map (Y.take k), hp, lessN_same, lessN_same]
  exact lessN_put (hX _ (List.getElem_mem hk)) (hY _ (List.getElem_mem hk2)) hlt _ _
theorem order_end {X Y : List (Nat × Nat)} (hp : X.map (·.2) = (Y.take X.length).map (·.2)) (hl : X.length < Y.length) : lessN (bytesOf X) (bytesOf Y) = true ∧ lessN (bytesOf Y) (bytesOf X) = false := by
  rw [bytesOf_split Y hl, bytesOf_map X, bytesOf_map (Y.take X.length), ← hp]
  have hn : putN Y[X.length].2 ++ bytesOf (Y.drop (X.length + 1)) ≠ [] := by
    intro h
    have := congrArg List.length h
    have hw := wid_pos Y[X.length].2
    simp [putN_len] at this
    omega
  have g1 := lessN_same ((X.map (·.2)).flatMap putN) [] (putN Y[X.length].2 ++ bytesOf (Y.drop (X.length + 1)))
  have g2 := lessN_same ((X.map (·.2)).flatMap putN) (putN Y[X.length].2 ++ bytesOf (Y.drop (X.length + 1))) []
  rw [List.append_nil] at g1 g2
  rw [g1, g2]
  cases hh : putN Y[X.length].2 ++ bytesOf (Y.drop (X.length + 1)) with
  | nil => exact absurd hh hn
  | cons a l => simp [lessN]
theorem neq_of_less {a b : ByteArray} (h : lessN (bs a) (bs b) = true) : (a.toList == b.toList) = false := by
  rw [Bool.eq_false_iff]
  intro h2
  have := toList_iff.1 h2
  subst this
  rw [lessN_irr] at h; cases h
theorem neq_of_less' {a b : ByteArray} (h : lessN (bs b) (bs a) = true) : (a.toList == b.toList) = false := by
  rw [Bool.eq_false_iff]
  intro h2
  have := toList_iff.1 h2
  subst this
  rw [lessN_irr] at h; cases h

set_option maxHeartbeats 4000000 in
set_option maxRecDepth 100000 in
theorem UtfOrder_walk (a0 : ByteArray) (a1 : ByteArray) (w : World) (w0 : a0.size ≤ maxLen) (w1 : a1.size ≤ maxLen) (hT : Tab w) :
    Calls Tryd.prog 4 #[.string a0, .string a1] w fun e w' => e = .returned (.bool true) ∧ Below w.heap.size w w' := by
  have hwk := uwakes_any w hT
  by_cases h0 : 500 < a0.size
  · go_enter Tryd.func4, Tryd.ntmps4
    go_wp2_with fail
    refine hwk.mono ?_
    rintro e w1 ⟨rfl, hb1⟩
    go_wp2
    go_ret
    exact ⟨rfl, hb1⟩
  by_cases h1 : 500 < a1.size
  · have h2 : a0.size ≤ 500 := by omega
    go_enter Tryd.func4, Tryd.ntmps4
    go_wp2_with fail
    refine hwk.mono ?_
    rintro e w1 ⟨rfl, hb1⟩
    go_wp2
    go_ret
    exact ⟨rfl, hb1⟩
  have h2 : a0.size ≤ 500 := by omega
  have h3 : a1.size ≤ 500 := by omega
  clear w0 w1 h0 h1
  have hV0 := fun w' => rValid_any a0 w' (by omega)
  have hV1 := fun w' => rValid_any a1 w' (by omega)
  cases hv : (scan (bs a0) 0).2 with
  | some k =>
    rw [hv] at hV0
    simp only [Option.isNone_some] at hV0
    clear hv
    go_enter Tryd.func4, Tryd.ntmps4
    go_wp2_with fail
    refine hwk.mono ?_
    rintro e w1 ⟨rfl, hb1⟩
    go_wp2_with fail
    refine (hV0 w1).mono ?_
    rintro e w2 ⟨rfl, hb2'⟩
    have hb2 := hb1.trans (hb2'.mono hb1.size)
    go_wp2
    go_ret
    exact ⟨rfl, hb2⟩
  | none =>
  rw [hv] at hV0
  simp only [Option.isNone_none] at hV0
  cases hv1 : (scan (bs a1) 0).2 with
  | some k =>
    rw [hv1] at hV1
    simp only [Option.isNone_some] at hV1
    clear hv hv1
    go_enter Tryd.func4, Tryd.ntmps4
    go_wp2_with fail
    refine hwk.mono ?_
    rintro e w1 ⟨rfl, hb1⟩
    go_wp2_with fail
    refine (hV0 w1).mono ?_
    rintro e w2 ⟨rfl, hb2'⟩
    have hb2 := hb1.trans (hb2'.mono hb1.size)
    go_wp2_with fail
    refine (hV1 w2).mono ?_
    rintro e w3 ⟨rfl, hb3'⟩
    have hb3 := hb2.trans (hb3'.mono hb2.size)
    go_wp2
    go_ret
    exact ⟨rfl, hb3⟩
  | none =>
  rw [hv1] at hV1
  simp only [Option.isNone_none] at hV1
  have hl0 := scan_len (bs a0).length (bs a0) 0 (Nat.le_refl _)
  have hl1 := scan_len (bs a1).length (bs a1) 0 (Nat.le_refl _)
  rw [bs_length] at hl0 hl1
  obtain ⟨hx1, hx2⟩ := scan_bytes (bs a0).length (bs a0) 0 (Nat.le_refl _) bs_lt hv
  obtain ⟨hy1, hy2⟩ := scan_bytes (bs a1).length (bs a1) 0 (Nat.le_refl _) bs_lt hv1
  have hTo0 := fun w' hT' => told_any a0 9999 w' (by omega) hT'
  have hTo1 := fun w' hT' => told_any a1 9999 w' (by omega) hT'
  rw [List.take_of_length_le (by omega)] at hTo0 hTo1
  have hLs := less_str a0 a1
  have hLs' := less_str a1 a0
  rw [← hx1, ← hy1] at hLs hLs'
  have hnl : lessN (bytesOf (scan (bs a0) 0).1) (bytesOf (scan (bs a1) 0).1) = true → (a0.toList == a1.toList) = false := by rw [hx1, hy1]; exact neq_of_less
  have hnl' : lessN (bytesOf (scan (bs a1) 0).1) (bytesOf (scan (bs a0) 0).1) = true → (a0.toList == a1.toList) = false := by rw [hx1, hy1]; exact neq_of_less'
  have heq : bytesOf (scan (bs a0) 0).1 = bytesOf (scan (bs a1) 0).1 → (a0.toList == a1.toList) = true := by rw [hx1, hy1]; exact fun h => toList_iff.2 (bs_inj h)
  clear hv hv1 hx1 hy1
  generalize (scan (bs a0) 0).1 = X at *
  generalize (scan (bs a1) 0).1 = Y at *
  have HX := Lib.hid hx2
  have HY := Lib.hid hy2
  have HL := Lib.hid hLs
  have HN := Lib.hid hnl
  have HN' := Lib.hid hnl'
  have HE := Lib.hid heq
  have hX5 : X.length ≤ 500 := by omega
  have hY5 : Y.length ≤ 500 := by omega
  clear hx2 hy2 hLs hLs' hnl hnl' heq hl0 hl1
  go_enter Tryd.func4, Tryd.ntmps4
  go_wp2_with fail
  refine hwk.mono ?_
  rintro e w1 ⟨rfl, hb1⟩
  go_wp2_with fail
  refine (hV0 w1).mono ?_
  rintro e w2 ⟨rfl, hb2'⟩
  have hb2 := hb1.trans (hb2'.mono hb1.size)
  go_wp2_with fail
  refine (hV1 w2).mono ?_
  rintro e w3 ⟨rfl, hb3'⟩
  have hb3 := hb2.trans (hb3'.mono hb2.size)
  have hT3 := hT.below hb3 hT.pos
  clear hV0 hV1 hb2' hb3'
  go_wp2_with fail
  refine (hTo0 w3 hT3).mono ?_
  rintro e w4 ⟨v4, rfl, ho4, hb4'⟩
  have hb4 := hb3.trans (hb4'.mono hb3.size)
  have hT4 := hT.below hb4 hT.pos
  have hp4 := ho4.pairs
  go_wp2_with fail
  refine (hTo1 w4 hT4).mono ?_
  rintro e w5 ⟨v5, rfl, ho5, hb5'⟩
  have hb5 := hb4.trans (hb5'.mono hb4.size)
  have hp5 := ho5.pairs
  have hp45 := hp4.below hb5'
  clear hTo0 hTo1 ho4 ho5 hb4' hb5' hp4
  obtain ⟨ax, cx, rfl, q1, q2, -⟩ := id hp45
  obtain ⟨ay, cy, rfl, q3, q4, -⟩ := id hp5
  unfold maxLen at q2 q4
  go_wp2_with fail
  go_loopw [7] (fun i wr => ∃ k : Nat, k ≤ X.length ∧ k ≤ Y.length ∧ i = .int .i64 k ∧ (X.take k).map (·.2) = (Y.take k).map (·.2) ∧ Below w5.heap.size w5 wr) (fun i _ => X.length - (intOf i).toNat)
  case atStart => exact ⟨0, Nat.zero_le _, Nat.zero_le _, rfl, by simp, Below.refl _ _⟩
  case round =>
    obtain ⟨k, hkX, hkY, rfl, hpre, hb⟩ := hrel
    have HP := Lib.hid hpre
    have hbw := hb5.trans (hb.mono hb5.size)
    clear hpre
    by_cases hx : k < X.length
    · by_cases hy : k < Y.length
      · obtain ⟨b1, o1, rfl, g1, d1, e1⟩ := (hp45.below hb).at hx
        obtain ⟨b2, o2, rfl, g2, d2, e2⟩ := (hp5.below hb).at hy
        have hD1 := Lib.hid (fun h => order_diff (k := k) HX.out HY.out hx hy HP.out h)
        have hD2 := Lib.hid (fun h => order_diff (k := k) HY.out HX.out hy hx HP.out.symm h)
        have hS : Hid (X[k].2 = Y[k].2 → (X.take (k + 1)).map (·.2) = (Y.take (k + 1)).map (·.2)) := Lib.hid fun h => by
          rw [List.take_succ_eq_append_getElem hx, List.take_succ_eq_append_getElem hy, List.map_append, List.map_append, HP.out]
          simp [h]
        generalize X[k] = p at *
        generalize Y[k] = q at *
        by_cases hpq : p.2 = q.2
        · have hS2 := Lib.hid (hS.out hpq)
          have hne : ((p.2 : Int) != (q.2 : Int)) = false := by simp [hpq]
          clear hpq hD1 hD2 hS
          go_wp2_with fail
          go_quiet (fail)
          go_wp2
          go_roundw
          case rel => exact ⟨k + 1, by omega, by omega, by go_num, hS2.out, hb.trans (below_draws _ _ _)⟩
          case measure => simp [intOf]; omega
        · have hne : ((p.2 : Int) != (q.2 : Int)) = true := by rw [bne_iff_ne]; omega
          rcases Nat.lt_or_gt_of_ne hpq with hlt | hlt
          · obtain ⟨f1, f2⟩ := hD1.out hlt
            have hLt : Op.bytesLess a0.toList a1.toList = true := by rw [HL.out]; exact f1
            have hEq := HN.out f1
            have hdl : decide ((p.2 : Int) < (q.2 : Int)) = true := by rw [decide_eq_true_iff]; omega
            have hdn : decide (p.2 < q.2) = true := by rw [decide_eq_true_iff]; omega
            clear hpq hD1 hD2 hS f1 f2
            go_wp2_with fail
            go_quiet (fail)
            go_wp2_with fail
            go_quiet (fail)
            go_wp2
            go_ret
            exact ⟨rfl, by first | exact (hbw.trans (below_draws _ _ _)).trans (below_draws _ _ _) | exact hbw.trans (below_draws _ _ _)⟩
          · obtain ⟨f1, f2⟩ := hD2.out hlt
            have hLt : Op.bytesLess a0.toList a1.toList = false := by rw [HL.out]; exact f2
            have hEq := HN'.out f1
            have hdl : decide ((p.2 : Int) < (q.2 : Int)) = false := by rw [decide_eq_false_iff_not]; omega
            have hdn : decide (p.2 < q.2) = false := by rw [decide_eq_false_iff_not]; omega
            clear hpq hD1 hD2 hS f1 f2
            go_wp2_with fail
            go_quiet (fail)
            go_wp2_with fail
            go_quiet (fail)
            go_wp2
            go_ret
            exact ⟨rfl, by first | exact (hbw.trans (below_draws _ _ _)).trans (below_draws _ _ _) | exact hbw.trans (below_draws _ _ _)⟩
      · obtain rfl : k = Y.length := by omega
        have hpp := HP.out
        rw [List.take_length] at hpp
        obtain ⟨f1, f2⟩ := order_end hpp.symm hx
        have hLt : Op.bytesLess a0.toList a1.toList = false := by rw [HL.out]; exact f2
        have hEq := HN'.out f1
        have hlq : ((X.length : Int) == (Y.length : Int)) = false := by rw [beq_eq_false_iff_ne]; omega
        have hdn : decide (X.length < Y.length) = false := by rw [decide_eq_false_iff_not]; omega
        clear hpp f1 f2
        go_wp2
        go_ret
        exact ⟨rfl, hbw⟩
    · obtain rfl : k = X.length := by omega
      have hpp := HP.out
      rw [List.take_length] at hpp
      rcases Nat.lt_or_ge X.length Y.length with hlt | hge
      · obtain ⟨f1, f2⟩ := order_end hpp hlt
        have hLt : Op.bytesLess a0.toList a1.toList = true := by rw [HL.out]; exact f1
        have hEq := HN.out f1
        have hlq : ((X.length : Int) == (Y.length : Int)) = false := by rw [beq_eq_false_iff_ne]; omega
        clear hpp f1 f2
        go_wp2
        go_ret
        exact ⟨rfl, hbw⟩
      · have hl : X.length = Y.length := by omega
        rw [hl, List.take_length] at hpp
        have hbe : bytesOf X = bytesOf Y := by rw [bytesOf_map, bytesOf_map, hpp]
        have hLt : Op.bytesLess a0.toList a1.toList = false := by rw [HL.out, hbe]; exact lessN_irr _
        have hEq := HE.out hbe
        have hlq : ((X.length : Int) == (Y.length : Int)) = true := by rw [hl]; simp
        have hdn : decide (X.length < Y.length) = false := by rw [decide_eq_false_iff_not]; omega
        clear hpp hbe hl
        go_wp2
        go_ret
        exact ⟨rfl, hbw⟩
end Go.Proofs.YthlmnbklhjcpnaaDoor
