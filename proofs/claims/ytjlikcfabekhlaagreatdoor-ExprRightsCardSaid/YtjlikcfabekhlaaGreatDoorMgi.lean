/- Texts of this claim, one behind the other: NuY, LxNr, QuoH. -/
import Derived.Test.YtjlikcfabekhlaaGreatDoorMgb
import Derived.Test.YtjlikcfabekhlaaGreatDoorMgc
import Derived.Test.YtjlikcfabekhlaaGreatDoorMgg
import Derived.Test.YtjlikcfabekhlaaGreatDoorMgh
set_option linter.unusedSimpArgs false
set_option linter.unusedVariables false

/- The walk of Parse (layer 6), the reference's. -/
namespace Go.Proofs.YtjlikcfabekhlaaGreatDoor
open Go.RowKit Go.Tab

set_option maxHeartbeats 4000000 in
set_option maxRecDepth 100000 in
theorem rParse_bad (s : ByteArray) (w : World) (hs : s.size ≤ 1048576) (h : s.data.toList = [] ∨ scanN s.data.toList ≠ s.size) :
    Calls Tryz.prog 65 #[.string s] w fun e w' => e = .returned (numOut ((false, [], 0), 3)) ∧ Below w.heap.size w w' := by
  by_cases h0 : s.size = 0
  · have hd : s = ⟨#[]⟩ := emp_of h0
    subst hd
    clear h h0 hs
    go_enter Tryz.func65, Tryz.ntmps65
    go_wp2
    refine bodyPost_ret (v := numOut ((false, [], 0), 3)) (by simp [results, Tryz.results65, go_sem, numOut, strL]) rfl ⟨rfl, ?_⟩
    (repeat' (first | (with_reducible refine Below.setCell ?_ ?_ _) | (with_reducible refine Below.alloc ?_ ?_ _) | (with_reducible refine Below.drew ?_) | (with_reducible refine below_drewN ?_ _) | (with_reducible assumption) | (with_reducible exact Below.refl _ _) | (simp only [World.size_alloc, World.size_setCell, World.size_drew]; done) | (simp only [World.size_alloc, World.size_setCell, World.size_drew]; omega) | omega))
  · have hne := ne_emp h0
    have hz : ((s.size : Int) == 0) = false := by rw [beq_eq_false_iff_ne]; omega
    have hn : ((scanN s.data.toList : Int) != (s.size : Int)) = true := by
      rcases h with h | h
      · rw [size_list, h] at h0; exact absurd rfl h0
      · rw [bne_iff_ne]; omega
    have hS := fun W => rScan_any s W hs
    clear h h0
    go_enter Tryz.func65, Tryz.ntmps65
    go_wp2_with fail
    refine (hS _).mono ?_
    rintro _ _ ⟨rfl, rfl⟩
    go_wp2
    refine bodyPost_ret (v := numOut ((false, [], 0), 3)) (by simp [results, Tryz.results65, go_sem, numOut, strL]) rfl ⟨rfl, ?_⟩
    (repeat' (first | (with_reducible refine Below.setCell ?_ ?_ _) | (with_reducible refine Below.alloc ?_ ?_ _) | (with_reducible refine Below.drew ?_) | (with_reducible refine below_drewN ?_ _) | (with_reducible assumption) | (with_reducible exact Below.refl _ _) | (simp only [World.size_alloc, World.size_setCell, World.size_drew]; done) | (simp only [World.size_alloc, World.size_setCell, World.size_drew]; omega) | omega))

theorem front_ne {c m : UInt8} (h : dg c = true ∨ c = 46) (hm : dg m = false ∧ m ≠ 46) : c ≠ m := by
  rcases h with h | rfl
  · exact dg_ne h hm.1
  · exact hm.2.symm
theorem u8_bn {c : UInt8} {n : UInt8} (h : c ≠ n) {m : Int} (hm : (n.toNat : Int) = m) : ((c.toNat : Int) != m) = true := by
  rw [bne, u8_nb h hm]; rfl
theorem eq_nil_or_snoc (d : Bs) : d = [] ∨ ∃ d' c, d = d' ++ [c] := by
  rcases List.eq_nil_or_concat d with h | ⟨d', c, h⟩
  · exact .inl h
  · exact .inr ⟨d', c, by rw [h, List.concat_eq_append]⟩
set_option maxHeartbeats 8000000 in
set_option maxRecDepth 100000 in
theorem rParse_good (s : ByteArray) (neg : Bool) (ip fr mk sg pw : Bs) (w : World) (hs : s.size ≤ 1048576) (h : NumTxt s.data.toList neg ip fr mk sg pw) :
    Calls Tryz.prog 65 #[.string s] w fun e w' => e = .returned (numOut (numVal neg ip fr (powQ sg pw))) ∧ Below w.heap.size w w' := by
  have hz0 : s.size ≠ 0 := by rw [size_list]; exact len_pos h.scan.2
  have hz : ((s.size : Int) == 0) = false := by rw [beq_eq_false_iff_ne]; omega
  have hpos : 0 < s.size := by omega
  have hn : ((scanN s.data.toList : Int) != (s.size : Int)) = false := by
    rw [h.scan.1, size_list]
    exact bne_self_eq_false _
  have hS := fun W => rScan_any s W hs
  obtain ⟨off, hoff⟩ : ∃ off, (if neg then 1 else 0) = off := ⟨_, rfl⟩
  have hoffb : off ≤ 1 := by rw [← hoff]; split <;> omega
  obtain ⟨F, hF⟩ : ∃ F, frontT ip fr = F := ⟨_, rfl⟩
  obtain ⟨R, hR⟩ : ∃ R, sg ++ pw = R := ⟨_, rfl⟩
  have hEq : s.data.toList = (if neg then [45] else []) ++ (F ++ (mk ++ R)) := by rw [← hF, ← hR]; exact h.eq'
  have hsz : s.size = off + F.length + mk.length + R.length := by
    rw [size_list, hEq, ← hoff]
    simp only [List.length_append]
    split <;> simp <;> omega
  have hat : ∀ j (hj : off + j < s.size), s[off + j]'hj = (F ++ (mk ++ R))[j]'(by simp only [List.length_append]; omega) := by
    intro j hj
    rw [get_list]
    have h1 : s.data.toList[off + j]? = (F ++ (mk ++ R))[j]? := by
      rw [hEq, ← hoff]
      cases neg
      · simp
      · simp [Nat.add_comm 1]
    rw [List.getElem?_eq_getElem (by rw [← size_list]; exact hj), List.getElem?_eq_getElem (by simp only [List.length_append]; omega)] at h1
    exact Option.some.inj h1
  have hneg : (((s[0]'hpos).toNat : Int) == 45) = neg := by
    cases neg with
    | true =>
      have : s[0]'hpos = 45 := by
        rw [get_list]
        have h1 : s.data.toList[0]? = some 45 := by rw [hEq]; rfl
        rw [List.getElem?_eq_getElem (by rw [← size_list]; exact hpos)] at h1
        exact Option.some.inj h1
      rw [this]; rfl
    | false =>
      have hip := h.ip0
      have hdd := h.dip
      have h1 : ∃ c, dg c = true ∧ s.data.toList[0]? = some c := by
        rw [hEq, ← hF, frontT]
        cases ip with
        | nil => exact absurd rfl hip
        | cons c p => exact ⟨c, all_head hdd (c := c) rfl, rfl⟩
      obtain ⟨c, hc, h2⟩ := h1
      rw [List.getElem?_eq_getElem (by rw [← size_list]; exact hpos)] at h2
      rw [get_list, Option.some.inj h2]
      exact u8_nb (n := 45) (dg_ne hc (by decide)) rfl
  have hFat : ∀ i (hi : i < s.size) (h1 : off ≤ i) (h2 : i - off < F.length), s[i]'hi = F[i - off] := by
    intro i hi h1 h2
    have := hat (i - off) (by omega)
    simp only [Nat.add_sub_cancel' h1] at this
    rw [this, List.getElem_append_left h2]
  have hRat : ∀ i (hi : i < s.size) (h1 : off + F.length + mk.length ≤ i) (h2 : i - (off + F.length + mk.length) < R.length), s[i]'hi = R[i - (off + F.length + mk.length)] := by
    intro i hi h1 h2
    have := hat (i - off) (by omega)
    simp only [Nat.add_sub_cancel' (show off ≤ i by omega)] at this
    rw [this, List.getElem_append_right (by omega), List.getElem_append_right (by omega)]
    congr 1
    omega
  have hFc : ∀ x ∈ F, dg x = true ∨ x = 46 := fun x hx => h.front_mem (by rw [hF]; exact hx)
  obtain ⟨pF, hgF⟩ := h.gather
  rw [hF] at hgF
  have hgR : R.foldl stP (0, false) = (pw.foldl addQ 0, decide (sg = [45])) := by
    rw [← hR]
    refine power_gather sg pw ?_ h.dpw
    rcases h.exp with ⟨_, h2, _⟩ | ⟨_, h2, _⟩
    · exact .inl h2
    · exact h2
  have hDl : (valD ip fr).length ≤ 1048576 := by
    have h1 := trimL_le (ip ++ fr)
    have h2 := h.len.1
    rw [← size_list] at h2
    rw [List.length_append] at h1
    unfold valD
    omega
  have hfl : fr.length ≤ 1048576 := by have h2 := h.len.1; rw [← size_list] at h2; omega
  have HF := Lib.hid hFat
  have HR := Lib.hid hRat
  have HFc := Lib.hid hFc
  have HgF := Lib.hid hgF
  have HgR := Lib.hid hgR
  have Hsz := Lib.hid hsz
  have hmk : (mk = [] ∧ R = []) ∨ mk = [101] ∨ mk = [69] := by
    rcases h.exp with ⟨h1, h2, h3⟩ | ⟨h1, _, _⟩
    · exact .inl ⟨h1, by rw [← hR, h2, h3]; rfl⟩
    · exact .inr h1
  have hmark : ∀ m, mk = [m] → ∃ hi : off + F.length < s.size, s[off + F.length]'hi = m := by
    intro m hm
    have hi : off + F.length < s.size := by rw [hsz, hm]; simp; omega
    refine ⟨hi, ?_⟩
    rw [hat F.length hi, List.getElem_append_right (Nat.le_refl _)]
    subst hm
    simp
  obtain ⟨q, hq⟩ : ∃ q, off + F.length = q := ⟨_, rfl⟩
  rw [hq] at hmark
  have Hq := Lib.hid hq
  have hqs : q ≤ s.size := by omega
  have hoq : off ≤ q := by omega
  clear hEq hat hFat hRat hFc hgF hgR hF hR hz0 hsz hq
  rcases hmk with ⟨rfl, hRn⟩ | rfl | rfl
  · clear hmark
    have hs1 := Lib.hid (show s.size = q by have := Hsz.out; have := Hq.out; rw [hRn] at *; simp at *; omega)
    have hs2 : ¬ q < s.size := by have := hs1.out; omega
    have HRat : Hid (∀ k (hk : k < s.size) (h1 : q + 1 ≤ k) (h2 : k - (q + 1) < R.length), s[k]'hk = R[k - (q + 1)]) := Lib.hid (fun k hk h1 h2 => by have := hs1.out; omega)
    have HRl : Hid (∀ k, k < s.size → q + 1 ≤ k → k - (q + 1) < R.length) := Lib.hid (fun k hk h1 => by have := hs1.out; omega)
    have HRe : Hid (∀ k, ¬ k < s.size → q + 1 ≤ k → k ≤ q + 1 + R.length → k - (q + 1) = R.length) := Lib.hid (fun k _ _ h => by rw [hRn] at h ⊢; simp at h ⊢; omega)
    have hRlen : R.length ≤ 1048576 := by rw [hRn]; simp
    clear HR Hsz hRn
    go_enter Tryz.func65, Tryz.ntmps65
    go_wp2_with fail
    refine (hS _).mono ?_
    rintro _ _ ⟨rfl, rfl⟩
    go_upto_if 23 with fail
    clear hS hz hn
    go_cut [5] (fun x wc => x = .int .i64 off ∧ Cells wc w.heap.size #[.bool false, .string ⟨#[]⟩, .int .i64 0] 106 ∧ Cells wc (w.heap.size + 1) #[.bool neg, .string ⟨#[]⟩, .int .i64 0] 106 ∧ Below w.heap.size w wc)
    case first =>
      have hb0 := fun b : Bool => (show Below w.heap.size w ((w.alloc (.cells #[.bool false, .string ⟨#[]⟩, .int .i64 0] 106)).alloc (.cells #[.bool b, .string ⟨#[]⟩, .int .i64 0] 106)) from ((Below.refl _ w).alloc (Nat.le_refl _) _).alloc (by simp) _)
      have hc0 := fun b : Bool => (Cells.new w #[.bool false, .string ⟨#[]⟩, .int .i64 0] 106).alloc (.cells #[.bool b, .string ⟨#[]⟩, .int .i64 0] 106)
      have hc1 := fun b : Bool => Cells.new (w.alloc (.cells #[.bool false, .string ⟨#[]⟩, .int .i64 0] 106)) #[.bool b, .string ⟨#[]⟩, .int .i64 0] 106
      rw [World.size_alloc] at hc1
      cases neg with
      | false =>
        have Hoff := Lib.hid (show 0 = off from hoff)
        clear hoff
        go_wp2
        go_meet
        case rel => exact ⟨by rw [← Hoff.out]; rfl, hc0 _, hc1 _, hb0 _⟩
      | true =>
        have Hoff := Lib.hid (show 1 = off from hoff)
        clear hoff
        go_wp2
        go_meet
        case rel => exact ⟨by rw [← Hoff.out]; rfl, hc0 _, hc1 _, hb0 _⟩
    case rest =>
      obtain ⟨rfl, hx, hy, hb⟩ := hcut
      clear hneg hoff
      go_wp2_with fail
      go_loopw [5, 6] (fun x5 x6 wr => ∃ (i : Nat) (d : Bs) (e : Int) (p : Bool), x5 = .int .i64 i ∧ x6 = .bool p ∧ off ≤ i ∧ i ≤ q ∧ (F.take (i - off)).foldl stF ([], 0, false) = (d, e, p) ∧ -(i : Int) ≤ e ∧ e ≤ 0 ∧ d.length ≤ i ∧ Cells wr w.heap.size #[.bool false, .string ⟨#[]⟩, .int .i64 0] 106 ∧ Cells wr (w.heap.size + 1) #[.bool neg, .string (strL d), .int .i64 e] 106 ∧ Below w.heap.size w wr) (fun x5 _ _ => q - (intOf x5).toNat)
      case atStart => exact ⟨off, [], 0, false, rfl, rfl, Nat.le_refl _, hoq, by rw [Nat.sub_self]; rfl, by omega, by omega, Nat.zero_le _, hx, hy, hb⟩
      case round =>
        clear hx hy hb
        obtain ⟨i, d, e, p, rfl, rfl, hi1, hi2, hfold, he1, he2, hdl, hx, hy, hb⟩ := hrel
        have his : i ≤ s.size := by omega
        by_cases hlt : i < q
        · have hil : i < s.size := by omega
          have hiF : i - off < F.length := by have := Hq.out; omega
          obtain ⟨c, hcF⟩ : ∃ c, F[i - off] = c := ⟨_, rfl⟩
          have hsi : s[i]'hil = c := by rw [HF.out i hil hi1 hiF, hcF]
          have hcc := HFc.out c (by rw [← hcF]; exact List.getElem_mem _)
          have n1 : (((s[i]'hil).toNat : Int) != 101) = true := by rw [hsi]; exact u8_bn (n := 101) (front_ne hcc (by decide)) rfl
          have n2 : (((s[i]'hil).toNat : Int) != 69) = true := by rw [hsi]; exact u8_bn (n := 69) (front_ne hcc (by decide)) rfl
          have hN : Hid ((F.take (i + 1 - off)).foldl stF ([], 0, false) = stF (d, e, p) c) := Lib.hid (by
            rw [show i + 1 - off = (i - off) + 1 by omega, foldl_take stF _ F hiF, hfold, hcF])
          have Hc := Lib.hid hsi
          obtain ⟨D, hD⟩ : ∃ D, strL d = D := ⟨_, rfl⟩
          have HD := Lib.hid hD
          rw [hD] at hy
          clear hfold hcF hcc hsi hD
          have hyc0 := hy.cell 0 _ rfl
          have hyf0 := hy.frozen 0
          have hyc1 := hy.cell 1 _ rfl
          have hyf1 := hy.frozen 1
          have hyc2 := hy.cell 2 _ rfl
          have hyf2 := hy.frozen 2
          by_cases h46 : c = 46
          · have d1 : (((s[i]'hil).toNat : Int) == 46) = true := by rw [Hc.out, h46]; rfl
            have hN2 := Lib.hid (show (F.take (i + 1 - off)).foldl stF ([], 0, false) = (d, e, true) by rw [hN.out, stF, if_pos h46])
            clear hN h46
            go_wp2
            go_roundw
            case rel => exact ⟨i + 1, d, e, true, by go_num, rfl, by omega, by omega, hN2.out, by omega, by omega, by omega, hx, by rw [HD.out]; exact hy, hb⟩
            case measure => simp [intOf]; omega
          · have d1 : (((s[i]'hil).toNat : Int) == 46) = false := by rw [Hc.out]; exact u8_nb h46 rfl
            by_cases hap : d ≠ [] ∨ c ≠ 48
            · obtain ⟨D2, hD2⟩ : ∃ D2, D ++ s.extract i (i + 1) = D2 := ⟨_, rfl⟩
              have HD2 : Hid (strL (d ++ [c]) = D2) := Lib.hid (str_ext (by
                rw [← hD2, app_list, ext_list, ← HD.out, strL_list, strL_list]
                have e1 : (s.data.toList.take (i + 1)).drop i = [c] := by
                  rw [List.take_add_one, List.getElem?_eq_getElem (by rw [← size_list]; exact hil), List.drop_append_of_le_length (by rw [List.length_take, ← size_list]; omega), List.drop_eq_nil_of_le (by rw [List.length_take]; omega), List.nil_append, ← Hc.out]
                  rfl
                rw [e1]))
              have hN3 : Hid ((F.take (i + 1 - off)).foldl stF ([], 0, false) = (d ++ [c], if p then e - 1 else e, p)) := Lib.hid (by rw [hN.out, stF, if_neg h46, if_pos hap])
              have hap2 : (0 < D.size) ∨ (¬ 0 < D.size ∧ (((s[i]'hil).toNat : Int) != 48) = true) := by
                by_cases hd : d = []
                · rcases hap with h | h
                  · exact absurd hd h
                  · exact .inr ⟨by rw [← HD.out, size_strL, hd]; simp, by rw [Hc.out]; exact u8_bn h rfl⟩
                · exact .inl (by rw [← HD.out, size_strL]; exact List.length_pos_iff.2 hd)
              have hDs : D.size ≤ 1048576 := by rw [← HD.out, size_strL]; omega
              have hxs : (s.extract i (i + 1)).size ≤ 1 := by rw [ByteArray.size_extract]; omega
              clear hN h46 hap
              rcases hap2 with hz | ⟨hz, d2⟩
              · cases p with
                | true =>
                  have hN2 : Hid ((F.take (i + 1 - off)).foldl stF ([], 0, false) = (d ++ [c], e - 1, true)) := Lib.hid hN3.out
                  clear hN3
                  go_wp2_with fail
                  (go_region; go_wp2_with fail)
                  go_roundw
                  case rel => exact ⟨i + 1, d ++ [c], e - 1, true, by go_num, rfl, by omega, by omega, hN2.out, by omega, by omega, by first | omega | (simp; omega), (hx.setOther _ _ (by simp)).setOther _ _ (by simp), by rw [HD2.out]; exact (hy.set 2 (by simp) _).set 1 (by simp) _, by (repeat' (first | (with_reducible refine Below.setCell ?_ ?_ _) | (with_reducible refine Below.alloc ?_ ?_ _) | (with_reducible refine Below.drew ?_) | (with_reducible refine below_drewN ?_ _) | (with_reducible assumption) | (with_reducible exact Below.refl _ _) | (simp only [World.size_alloc, World.size_setCell, World.size_drew]; done) | (simp only [World.size_alloc, World.size_setCell, World.size_drew]; omega) | omega))⟩
                  case measure => simp [intOf]; omega
                | false =>
                  have hN2 : Hid ((F.take (i + 1 - off)).foldl stF ([], 0, false) = (d ++ [c], e, false)) := Lib.hid hN3.out
                  clear hN3
                  go_wp2_with fail
                  (go_region; go_wp2_with fail)
                  go_roundw
                  case rel => exact ⟨i + 1, d ++ [c], e, false, by go_num, rfl, by omega, by omega, hN2.out, by omega, by omega, by first | omega | (simp; omega), hx.setOther _ _ (by simp), by rw [HD2.out]; exact hy.set 1 (by simp) _, by (repeat' (first | (with_reducible refine Below.setCell ?_ ?_ _) | (with_reducible refine Below.alloc ?_ ?_ _) | (with_reducible refine Below.drew ?_) | (with_reducible refine below_drewN ?_ _) | (with_reducible assumption) | (with_reducible exact Below.refl _ _) | (simp only [World.size_alloc, World.size_setCell, World.size_drew]; done) | (simp only [World.size_alloc, World.size_setCell, World.size_drew]; omega) | omega))⟩
                  case measure => simp [intOf]; omega
              · cases p with
                | true =>
                  have hN2 : Hid ((F.take (i + 1 - off)).foldl stF ([], 0, false) = (d ++ [c], e - 1, true)) := Lib.hid hN3.out
                  clear hN3
                  go_wp2_with fail
                  (go_region; go_wp2_with fail)
                  go_roundw
                  case rel => exact ⟨i + 1, d ++ [c], e - 1, true, by go_num, rfl, by omega, by omega, hN2.out, by omega, by omega, by first | omega | (simp; omega), (hx.setOther _ _ (by simp)).setOther _ _ (by simp), by rw [HD2.out]; exact (hy.set 2 (by simp) _).set 1 (by simp) _, by (repeat' (first | (with_reducible refine Below.setCell ?_ ?_ _) | (with_reducible refine Below.alloc ?_ ?_ _) | (with_reducible refine Below.drew ?_) | (with_reducible refine below_drewN ?_ _) | (with_reducible assumption) | (with_reducible exact Below.refl _ _) | (simp only [World.size_alloc, World.size_setCell, World.size_drew]; done) | (simp only [World.size_alloc, World.size_setCell, World.size_drew]; omega) | omega))⟩
                  case measure => simp [intOf]; omega
                | false =>
                  have hN2 : Hid ((F.take (i + 1 - off)).foldl stF ([], 0, false) = (d ++ [c], e, false)) := Lib.hid hN3.out
                  clear hN3
                  go_wp2_with fail
                  (go_region; go_wp2_with fail)
                  go_roundw
                  case rel => exact ⟨i + 1, d ++ [c], e, false, by go_num, rfl, by omega, by omega, hN2.out, by omega, by omega, by first | omega | (simp; omega), hx.setOther _ _ (by simp), by rw [HD2.out]; exact hy.set 1 (by simp) _, by (repeat' (first | (with_reducible refine Below.setCell ?_ ?_ _) | (with_reducible refine Below.alloc ?_ ?_ _) | (with_reducible refine Below.drew ?_) | (with_reducible refine below_drewN ?_ _) | (with_reducible assumption) | (with_reducible exact Below.refl _ _) | (simp only [World.size_alloc, World.size_setCell, World.size_drew]; done) | (simp only [World.size_alloc, World.size_setCell, World.size_drew]; omega) | omega))⟩
                  case measure => simp [intOf]; omega
            · have hN3 : Hid ((F.take (i + 1 - off)).foldl stF ([], 0, false) = (d, if p then e - 1 else e, p)) := Lib.hid (by rw [hN.out, stF, if_neg h46, if_neg hap])
              have hap2 : d = [] ∧ c = 48 := by
                refine ⟨?_, ?_⟩
                · by_cases hd : d = []
                  · exact hd
                  · exact absurd (.inl hd) hap
                · by_cases hd : c = 48
                  · exact hd
                  · exact absurd (.inr hd) hap
              have hz : ¬ 0 < D.size := by rw [← HD.out, size_strL, hap2.1]; simp
              have d2 : (((s[i]'hil).toNat : Int) != 48) = false := by rw [Hc.out, hap2.2]; rfl
              clear hN h46 hap hap2
              cases p with
              | true =>
                have hN2 : Hid ((F.take (i + 1 - off)).foldl stF ([], 0, false) = (d, e - 1, true)) := Lib.hid hN3.out
                clear hN3
                go_wp2_with fail
                skip
                go_roundw
                case rel => exact ⟨i + 1, d, e - 1, true, by go_num, rfl, by omega, by omega, hN2.out, by omega, by omega, by first | omega | (simp; omega), hx.setOther _ _ (by simp), by rw [HD.out]; exact hy.set 2 (by simp) _, by (repeat' (first | (with_reducible refine Below.setCell ?_ ?_ _) | (with_reducible refine Below.alloc ?_ ?_ _) | (with_reducible refine Below.drew ?_) | (with_reducible refine below_drewN ?_ _) | (with_reducible assumption) | (with_reducible exact Below.refl _ _) | (simp only [World.size_alloc, World.size_setCell, World.size_drew]; done) | (simp only [World.size_alloc, World.size_setCell, World.size_drew]; omega) | omega))⟩
                case measure => simp [intOf]; omega
              | false =>
                have hN2 : Hid ((F.take (i + 1 - off)).foldl stF ([], 0, false) = (d, e, false)) := Lib.hid hN3.out
                clear hN3
                go_wp2_with fail
                skip
                go_roundw
                case rel => exact ⟨i + 1, d, e, false, by go_num, rfl, by omega, by omega, hN2.out, by omega, by omega, by first | omega | (simp; omega), hx, by rw [HD.out]; exact hy, by (repeat' (first | (with_reducible refine Below.setCell ?_ ?_ _) | (with_reducible refine Below.alloc ?_ ?_ _) | (with_reducible refine Below.drew ?_) | (with_reducible refine below_drewN ?_ _) | (with_reducible assumption) | (with_reducible exact Below.refl _ _) | (simp only [World.size_alloc, World.size_setCell, World.size_drew]; done) | (simp only [World.size_alloc, World.size_setCell, World.size_drew]; omega) | omega))⟩
                case measure => simp [intOf]; omega
        · obtain rfl : i = q := by omega
          have hfin : Hid (d = valD ip fr ∧ e = -(fr.length : Int)) := Lib.hid (by
            have h1 := hfold
            rw [show i - off = F.length by have := Hq.out; omega, List.take_length, HgF.out] at h1
            exact ⟨(congrArg (fun x => x.1) h1).symm, (congrArg (fun x => x.2.1) h1).symm⟩)
          clear hfold
          clear hlt hi2 his
          go_wp2_with fail
          clear hs2
          go_loop [5, 7, 8] (fun x5 x7 x8 => ∃ (k n : Nat) (p : Bool), x5 = .int .i64 k ∧ x7 = .int .i64 n ∧ x8 = .bool p ∧ i + 1 ≤ k ∧ k ≤ i + 1 + R.length ∧ (R.take (k - (i + 1))).foldl stP (0, false) = (n, p) ∧ n < 10000000000) (fun x5 _ _ => i + 1 + R.length - (intOf x5).toNat)
          case atStart => exact ⟨i + 1, 0, false, by go_num, rfl, rfl, Nat.le_refl _, by omega, by rw [Nat.sub_self]; rfl, by omega⟩
          case round =>
            obtain ⟨k, n, p, rfl, rfl, rfl, hk1, hk2, hfold, hnb⟩ := hrel
            have hD := fun W => rdig_any s k W (by omega)
            by_cases hks : k < s.size
            · have hkR := HRl.out k hks hk1
              obtain ⟨c, hcR⟩ : ∃ c, R[k - (i + 1)]'(by omega) = c := ⟨_, rfl⟩
              have hsk : s[k]'hks = c := by rw [HRat.out k hks hk1 (by omega), hcR]
              have hN : Hid ((R.take (k + 1 - (i + 1))).foldl stP (0, false) = stP (n, p) c) := Lib.hid (by
                rw [show k + 1 - (i + 1) = (k - (i + 1)) + 1 by omega, foldl_take stP _ R (by omega), hfold, hcR])
              have hdig : digB s k = dg c := by
                rw [digB, digs_at hks, hsk]
                cases dg c <;> simp
              rw [hdig] at hD
              clear hfold hcR hdig
              by_cases h45 : c = 45
              · have hN2 := Lib.hid (show (R.take (k + 1 - (i + 1))).foldl stP (0, false) = (n, true) by rw [hN.out, stP, h45]; simp [show dg 45 = false from rfl])
                rw [h45] at hD hsk
                have hD2 : ∀ W, Calls Tryz.prog 91 #[.string s, .int .i64 k] W fun r w' => r = .returned (.bool false) ∧ W = w' := hD
                have d1 : (((s[k]'hks).toNat : Int) == 45) = true := by rw [hsk]; rfl
                clear hN h45 hD hsk
                go_wp2_with ((with_reducible refine (hD2 _).mono ?_); rintro _ _ ⟨rfl, rfl⟩)
                go_round
                case rel => exact ⟨k + 1, n, true, by go_num, rfl, rfl, by omega, by omega, hN2.out, hnb⟩
                case measure => (simp [intOf] <;> omega)
              · have d1 : (((s[k]'hks).toNat : Int) == 45) = false := by rw [hsk]; exact u8_nb h45 rfl
                cases hdc : dg c with
                | false =>
                  have hN2 := Lib.hid (show (R.take (k + 1 - (i + 1))).foldl stP (0, false) = (n, p) by rw [hN.out, stP, hdc]; simp [h45])
                  rw [hdc] at hD
                  clear hN h45 hsk hdc
                  go_wp2_with ((with_reducible refine (hD _).mono ?_); rintro _ _ ⟨rfl, rfl⟩)
                  go_round
                  case rel => exact ⟨k + 1, n, p, by go_num, rfl, rfl, by omega, by omega, hN2.out, hnb⟩
                  case measure => simp [intOf] <;> omega
                | true =>
                  have hcb : 48 ≤ (s[k]'hks).toNat ∧ (s[k]'hks).toNat ≤ 57 := by rw [hsk]; exact dg_lt hdc
                  have hN2 := Lib.hid (show (R.take (k + 1 - (i + 1))).foldl stP (0, false) = (addQ n c, p) by rw [hN.out, stP, hdc]; simp [h45])
                  rw [hdc] at hD
                  have Hsk := Lib.hid hsk
                  clear hN h45 hdc hsk d1
                  have d1 : ¬ ((s[k]'hks).toNat : Int) = 45 := by omega
                  by_cases hn9 : n < 1000000000
                  · have hn7 : n ≤ 999999999 := by omega
                    have hA := Lib.hid (show addQ n c = n * 10 + (c.toNat - 48) by rw [addQ, if_pos hn9])
                    have HN9 := Lib.hid hn9
                    clear hnb hn9
                    go_upto_region 22 with fail
                    go_upto_if 82 with fail
                    go_upto_region 24 with fail
                    go_upto_if 89 with ((with_reducible refine (hD _).mono ?_); rintro _ _ ⟨rfl, rfl⟩)
                    rw [show decide ((n : Int) < 1000000000) = true from decide_eq_true (by omega)]
                    go_wp2
                    go_round
                    case rel => exact ⟨k + 1, addQ n c, p, by go_num, by rw [hA.out, ← Hsk.out]; congr 1; have := HN9.out; (try unfold wrap64); omega, rfl, by omega, by omega, hN2.out, by rw [hA.out, ← Hsk.out]; have := HN9.out; omega⟩
                    case measure => (simp [intOf] <;> omega)
                  · have hn7 : 1000000000 ≤ n := by omega
                    have hA := Lib.hid (show addQ n c = n by rw [addQ, if_neg hn9])
                    have HNb := Lib.hid hnb
                    clear hn9 hnb
                    go_upto_region 22 with fail
                    go_upto_if 82 with fail
                    go_upto_region 24 with fail
                    go_upto_if 89 with ((with_reducible refine (hD _).mono ?_); rintro _ _ ⟨rfl, rfl⟩)
                    rw [show decide ((n : Int) < 1000000000) = false from decide_eq_false (by omega)]
                    go_wp2
                    go_round
                    case rel => exact ⟨k + 1, addQ n c, p, by go_num, by rw [hA.out], rfl, by omega, by omega, hN2.out, by rw [hA.out]; exact HNb.out⟩
                    case measure => (simp [intOf] <;> omega)
            · have hk3 := HRe.out k hks hk1 hk2
              have hfin2 : n = pw.foldl addQ 0 ∧ p = decide (sg = [45]) := by
                have h1 := hfold
                rw [show k - (i + 1) = R.length by omega, List.take_length, HgR.out] at h1
                exact ⟨(congrArg (fun x => x.1) h1).symm, (congrArg (fun x => x.2) h1).symm⟩
              have hPw : powQ sg pw = if p then -(n : Int) else n := by
                rw [powQ, sgn, hfin2.1, hfin2.2]
                by_cases h : sg = [45] <;> simp [h]
              obtain ⟨P, hP⟩ : ∃ P, powQ sg pw = P := ⟨_, rfl⟩
              have HP := Lib.hid hP
              rw [hP] at hPw
              have HPw := Lib.hid hPw
              have hPb : -10000000000 ≤ P ∧ P ≤ 10000000000 := by rw [hPw]; split <;> omega
              clear hfold hfin2 hPw hP hk3 hD
              go_upto_if 98 with fail
              go_cut [7] (fun x wc => x = .int .i64 P ∧ wr = wc)
              case first =>
                cases p with
                | false =>
                  go_wp2
                  go_meet
                  case rel => exact ⟨by rw [HPw.out]; rfl, rfl⟩
                | true =>
                  go_wp2
                  go_meet
                  case rel => exact ⟨by rw [HPw.out]; simp, rfl⟩
              case rest =>
                obtain ⟨rfl, rfl⟩ := hcut
                rw [hfin.out.1, hfin.out.2] at hy
                clear hfin he1 he2 hdl HPw
                have hyc0 := hy.cell 0 _ rfl
                have hyf0 := hy.frozen 0
                have hyc1 := hy.cell 1 _ rfl
                have hyf1 := hy.frozen 1
                have hyc2 := hy.cell 2 _ rfl
                have hyf2 := hy.frozen 2
                go_wp2_with fail
                go_loopw [] (fun wr2 => ∃ (d : Bs) (e : Int), Lib.trimRightB d 48 = valC ip fr ∧ e + d.length = -(fr.length : Int) + P + (valD ip fr).length ∧ d.length ≤ (valD ip fr).length ∧ Cells wr2 w.heap.size #[.bool false, .string ⟨#[]⟩, .int .i64 0] 106 ∧ Cells wr2 (w.heap.size + 1) #[.bool neg, .string (strL d), .int .i64 e] 106 ∧ Below w.heap.size w wr2) (fun wr2 => match wr2.cell? ⟨w.heap.size + 1, 1, none⟩ with | some v => Lib.strSize v | none => 0)
                case atStart => exact ⟨valD ip fr, -(fr.length : Int) + P, rfl, rfl, Nat.le_refl _, hx.setOther _ _ (by simp), hy.set 2 (by simp) _, by (repeat' (first | (with_reducible refine Below.setCell ?_ ?_ _) | (with_reducible refine Below.alloc ?_ ?_ _) | (with_reducible refine Below.drew ?_) | (with_reducible refine below_drewN ?_ _) | (with_reducible assumption) | (with_reducible exact Below.refl _ _) | (simp only [World.size_alloc, World.size_setCell, World.size_drew]; done) | (simp only [World.size_alloc, World.size_setCell, World.size_drew]; omega) | omega))⟩
                case round =>
                  clear hx hy hb hyc0 hyc1 hyc2 hyf0 hyf1 hyf2
                  obtain ⟨d, e, ht, he, hdl, hx, hy, hb⟩ := hrel
                  have hds : (strL d).size = d.length := size_strL d
                  have heb : -20000000000 ≤ e ∧ e ≤ 20000000000 := by omega
                  rcases eq_nil_or_snoc d with hd0 | ⟨d', c, hd0⟩
                  · subst hd0
                    have hV := Lib.hid (show numVal neg ip fr (powQ sg pw) = ((false, [], 0), 0) by
                      rw [numVal, if_pos (show valC ip fr = [] from ht.symm)])
                    have hy : Cells wr (w.heap.size + 1) #[.bool neg, .string ⟨#[]⟩, .int .i64 e] 106 := hy
                    have hz : ((⟨#[]⟩ : ByteArray).size : Int) = 0 := rfl
                    clear ht he hdl hds
                    have hxc0 := hx.cell 0 _ rfl
                    have hxf0 := hx.frozen 0
                    have hxc1 := hx.cell 1 _ rfl
                    have hxf1 := hx.frozen 1
                    have hxc2 := hx.cell 2 _ rfl
                    have hxf2 := hx.frozen 2
                    have hyc0 := hy.cell 0 _ rfl
                    have hyf0 := hy.frozen 0
                    have hyc1 := hy.cell 1 _ rfl
                    have hyf1 := hy.frozen 1
                    have hyc2 := hy.cell 2 _ rfl
                    have hyf2 := hy.frozen 2
                    go_wp2
                    refine bodyPost_ret (v := numOut ((false, [], 0), 0)) (by simp [results, Tryz.results65, go_sem, numOut, strL, hxc0, hxc1, hxc2]) rfl ⟨by rw [hV.out], ?_⟩
                    (repeat' (first | (with_reducible refine Below.setCell ?_ ?_ _) | (with_reducible refine Below.alloc ?_ ?_ _) | (with_reducible refine Below.drew ?_) | (with_reducible refine below_drewN ?_ _) | (with_reducible assumption) | (with_reducible exact Below.refl _ _) | (simp only [World.size_alloc, World.size_setCell, World.size_drew]; done) | (simp only [World.size_alloc, World.size_setCell, World.size_drew]; omega) | omega))
                  · subst hd0
                    obtain ⟨D, hD⟩ : ∃ D, strL (d' ++ [c]) = D := ⟨_, rfl⟩
                    rw [hD] at hy hds
                    have hDm : D.size = d'.length + 1 := by rw [hds]; simp
                    have hDp : 0 < D.size := by omega
                    have hDb : D.size ≤ 1048576 := by omega
                    have hDn : D.size - 1 < D.size := by omega
                    have hDi : 0 ≤ (D.size : Int) - 1 ∧ (D.size : Int) - 1 < (D.size : Int) := by omega
                    have hDl : D[D.size - 1]'hDn = c := by
                      subst hD
                      rw [strL_at]
                      simp [size_strL]
                    by_cases h48 : c = 48
                    · have d2 : (((D[D.size - 1]'hDn).toNat : Int) == 48) = true := by rw [hDl, h48]; rfl
                      have hx2 : D.extract 0 (D.size - 1) = strL d' := by
                        rw [← hD, strL_ext, size_strL]
                        simp
                      have ht2 : Lib.trimRightB d' 48 = valC ip fr := by rw [← ht, trimR_snoc, if_pos h48]
                      have hl2 : d'.length ≤ (valD ip fr).length := by simp at hdl; omega
                      have he2 : e + 1 + d'.length = -(fr.length : Int) + P + (valD ip fr).length := by rw [← he]; simp; omega
                      have HT := Lib.hid ht2
                      have HE := Lib.hid he2
                      have hme : d'.length < D.size := by omega
                      clear ht he hdl hds hDm hDl h48 hD ht2 he2
                      obtain ⟨D2, hD2⟩ : ∃ D2, strL d' = D2 := ⟨_, rfl⟩
                      have hsz2 := Lib.hid (show D2.size = d'.length by rw [← hD2, size_strL])
                      have HD2 := Lib.hid hD2
                      rw [hD2] at hx2
                      clear hD2
                      have hyc0 := hy.cell 0 _ rfl
                      have hyf0 := hy.frozen 0
                      have hyc1 := hy.cell 1 _ rfl
                      have hyf1 := hy.frozen 1
                      have hyc2 := hy.cell 2 _ rfl
                      have hyf2 := hy.frozen 2
                      go_wp2
                      go_roundw
                      case rel => exact ⟨d', e + 1, HT.out, HE.out, hl2, (hx.setOther _ _ (by simp)).setOther _ _ (by simp), by rw [HD2.out]; exact (hy.set 1 (by simp) _).set 2 (by simp) _, by (repeat' (first | (with_reducible refine Below.setCell ?_ ?_ _) | (with_reducible refine Below.alloc ?_ ?_ _) | (with_reducible refine Below.drew ?_) | (with_reducible refine below_drewN ?_ _) | (with_reducible assumption) | (with_reducible exact Below.refl _ _) | (simp only [World.size_alloc, World.size_setCell, World.size_drew]; done) | (simp only [World.size_alloc, World.size_setCell, World.size_drew]; omega) | omega))⟩
                      case measure =>
                        have m1 := ((hy.set 1 (by simp) (.string D2)).set 2 (by simp) (.int .i64 (e + 1))).cell 1 _ rfl
                        rw [m1, hyc1]
                        show D2.size < D.size
                        rw [hsz2.out]
                        exact hme
                    · have d2 : (((D[D.size - 1]'hDn).toNat : Int) == 48) = false := by rw [hDl]; exact u8_nb h48 rfl
                      have hvc : d' ++ [c] = valC ip fr := by rw [← ht, trimR_snoc, if_neg h48]
                      have hDz : ((D.size : Int) == 0) = false := by rw [beq_eq_false_iff_ne]; omega
                      have hRr := fun W => rNumRight_any neg D e W hDb
                      have hV := Lib.hid (show numVal neg ip fr (powQ sg pw) = if numR neg D e then ((neg, valC ip fr, e), 0) else ((false, [], 0), 4) by
                        have hc0 : valC ip fr ≠ [] := by rw [← hvc]; simp
                        have hEE : valE ip fr (powQ sg pw) = e := by
                          have h1 := HP.out
                          have h2 : (valC ip fr).length ≤ (valD ip fr).length := trimR_le _
                          rw [valE, h1]
                          rw [hvc] at he
                          omega
                        rw [numVal, if_neg hc0, hEE, show (⟨(valC ip fr).toArray⟩ : ByteArray) = D by rw [← hvc]; exact hD])
                      have HC := Lib.hid (show strL (valC ip fr) = D by rw [← hvc]; exact hD)
                      clear ht he hdl hds hDm hDl h48 hD hvc
                      have hxc0 := hx.cell 0 _ rfl
                      have hxf0 := hx.frozen 0
                      have hxc1 := hx.cell 1 _ rfl
                      have hxf1 := hx.frozen 1
                      have hxc2 := hx.cell 2 _ rfl
                      have hxf2 := hx.frozen 2
                      have hyc0 := hy.cell 0 _ rfl
                      have hyf0 := hy.frozen 0
                      have hyc1 := hy.cell 1 _ rfl
                      have hyf1 := hy.frozen 1
                      have hyc2 := hy.cell 2 _ rfl
                      have hyf2 := hy.frozen 2
                      cases hr : numR neg D e with
                      | true =>
                        have hV2 := Lib.hid (show numVal neg ip fr (powQ sg pw) = ((neg, valC ip fr, e), 0) by rw [hV.out, if_pos hr])
                        rw [hr] at hRr
                        clear hV hr
                        go_wp2_with fail
                        refine (hRr _).mono ?_
                        rintro _ w2 ⟨rfl, hb2⟩
                        have hx2 := hx.below hb2 hx.lt
                        have hy2 := hy.below hb2 hy.lt
                        have hb3 := hb.trans (hb2.mono hb.size)
                        clear hb2 hxc0 hxc1 hxc2 hxf0 hxf1 hxf2 hyc0 hyc1 hyc2 hyf0 hyf1 hyf2
                        have hx2c0 := hx2.cell 0 _ rfl
                        have hx2f0 := hx2.frozen 0
                        have hx2c1 := hx2.cell 1 _ rfl
                        have hx2f1 := hx2.frozen 1
                        have hx2c2 := hx2.cell 2 _ rfl
                        have hx2f2 := hx2.frozen 2
                        have hy2c0 := hy2.cell 0 _ rfl
                        have hy2f0 := hy2.frozen 0
                        have hy2c1 := hy2.cell 1 _ rfl
                        have hy2f1 := hy2.frozen 1
                        have hy2c2 := hy2.cell 2 _ rfl
                        have hy2f2 := hy2.frozen 2
                        go_wp2
                        have hCe := HC.out
                        refine bodyPost_ret (v := numOut ((neg, valC ip fr, e), 0)) (by simp [results, Tryz.results65, go_sem, numOut, hCe, hx2c0, hx2c1, hx2c2]) rfl ⟨by rw [hV2.out], ?_⟩
                        (repeat' (first | (with_reducible refine Below.setCell ?_ ?_ _) | (with_reducible refine Below.alloc ?_ ?_ _) | (with_reducible refine Below.drew ?_) | (with_reducible refine below_drewN ?_ _) | (with_reducible assumption) | (with_reducible exact Below.refl _ _) | (simp only [World.size_alloc, World.size_setCell, World.size_drew]; done) | (simp only [World.size_alloc, World.size_setCell, World.size_drew]; omega) | omega))
                      | false =>
                        have hV2 := Lib.hid (show numVal neg ip fr (powQ sg pw) = ((false, [], 0), 4) by rw [hV.out, if_neg (by rw [hr]; decide)])
                        rw [hr] at hRr
                        clear hV hr
                        go_wp2_with fail
                        refine (hRr _).mono ?_
                        rintro _ w2 ⟨rfl, hb2⟩
                        have hx2 := hx.below hb2 hx.lt
                        have hy2 := hy.below hb2 hy.lt
                        have hb3 := hb.trans (hb2.mono hb.size)
                        clear hb2 hxc0 hxc1 hxc2 hxf0 hxf1 hxf2 hyc0 hyc1 hyc2 hyf0 hyf1 hyf2
                        have hx2c0 := hx2.cell 0 _ rfl
                        have hx2f0 := hx2.frozen 0
                        have hx2c1 := hx2.cell 1 _ rfl
                        have hx2f1 := hx2.frozen 1
                        have hx2c2 := hx2.cell 2 _ rfl
                        have hx2f2 := hx2.frozen 2
                        have hy2c0 := hy2.cell 0 _ rfl
                        have hy2f0 := hy2.frozen 0
                        have hy2c1 := hy2.cell 1 _ rfl
                        have hy2f1 := hy2.frozen 1
                        have hy2c2 := hy2.cell 2 _ rfl
                        have hy2f2 := hy2.frozen 2
                        go_wp2
                        refine bodyPost_ret (v := numOut ((false, [], 0), 4)) (by simp [results, Tryz.results65, go_sem, numOut, strL, hx2c0, hx2c1, hx2c2]) rfl ⟨by rw [hV2.out], ?_⟩
                        (repeat' (first | (with_reducible refine Below.setCell ?_ ?_ _) | (with_reducible refine Below.alloc ?_ ?_ _) | (with_reducible refine Below.drew ?_) | (with_reducible refine below_drewN ?_ _) | (with_reducible assumption) | (with_reducible exact Below.refl _ _) | (simp only [World.size_alloc, World.size_setCell, World.size_drew]; done) | (simp only [World.size_alloc, World.size_setCell, World.size_drew]; omega) | omega))
  · skip
    obtain ⟨hqi, hqm⟩ := hmark _ rfl
    clear hmark
    have hs1 := Lib.hid (show s.size = q + 1 + R.length by have := Hsz.out; have := Hq.out; simp at *; omega)
    have HRat : Hid (∀ k (hk : k < s.size) (h1 : q + 1 ≤ k) (h2 : k - (q + 1) < R.length), s[k]'hk = R[k - (q + 1)]) := Lib.hid (fun k hk h1 h2 => by
      have e := Hq.out
      subst e
      exact HR.out k hk h1 h2)
    have HRl : Hid (∀ k, k < s.size → q + 1 ≤ k → k - (q + 1) < R.length) := Lib.hid (fun k hk h1 => by have := hs1.out; omega)
    have HRe : Hid (∀ k, ¬ k < s.size → q + 1 ≤ k → k ≤ q + 1 + R.length → k - (q + 1) = R.length) := Lib.hid (fun k h1 h2 h3 => by have := hs1.out; omega)
    have hRlen : R.length ≤ 1048576 := by have := hs1.out; omega
    clear HR Hsz
    have hs2 : (((s[q]'hqi).toNat : Int) != 101) = false := by rw [hqm]; rfl
    clear hqm
    go_enter Tryz.func65, Tryz.ntmps65
    go_wp2_with fail
    refine (hS _).mono ?_
    rintro _ _ ⟨rfl, rfl⟩
    go_upto_if 23 with fail
    clear hS hz hn
    go_cut [5] (fun x wc => x = .int .i64 off ∧ Cells wc w.heap.size #[.bool false, .string ⟨#[]⟩, .int .i64 0] 106 ∧ Cells wc (w.heap.size + 1) #[.bool neg, .string ⟨#[]⟩, .int .i64 0] 106 ∧ Below w.heap.size w wc)
    case first =>
      have hb0 := fun b : Bool => (show Below w.heap.size w ((w.alloc (.cells #[.bool false, .string ⟨#[]⟩, .int .i64 0] 106)).alloc (.cells #[.bool b, .string ⟨#[]⟩, .int .i64 0] 106)) from ((Below.refl _ w).alloc (Nat.le_refl _) _).alloc (by simp) _)
      have hc0 := fun b : Bool => (Cells.new w #[.bool false, .string ⟨#[]⟩, .int .i64 0] 106).alloc (.cells #[.bool b, .string ⟨#[]⟩, .int .i64 0] 106)
      have hc1 := fun b : Bool => Cells.new (w.alloc (.cells #[.bool false, .string ⟨#[]⟩, .int .i64 0] 106)) #[.bool b, .string ⟨#[]⟩, .int .i64 0] 106
      rw [World.size_alloc] at hc1
      cases neg with
      | false =>
        have Hoff := Lib.hid (show 0 = off from hoff)
        clear hoff
        go_wp2
        go_meet
        case rel => exact ⟨by rw [← Hoff.out]; rfl, hc0 _, hc1 _, hb0 _⟩
      | true =>
        have Hoff := Lib.hid (show 1 = off from hoff)
        clear hoff
        go_wp2
        go_meet
        case rel => exact ⟨by rw [← Hoff.out]; rfl, hc0 _, hc1 _, hb0 _⟩
    case rest =>
      obtain ⟨rfl, hx, hy, hb⟩ := hcut
      clear hneg hoff
      go_wp2_with fail
      go_loopw [5, 6] (fun x5 x6 wr => ∃ (i : Nat) (d : Bs) (e : Int) (p : Bool), x5 = .int .i64 i ∧ x6 = .bool p ∧ off ≤ i ∧ i ≤ q ∧ (F.take (i - off)).foldl stF ([], 0, false) = (d, e, p) ∧ -(i : Int) ≤ e ∧ e ≤ 0 ∧ d.length ≤ i ∧ Cells wr w.heap.size #[.bool false, .string ⟨#[]⟩, .int .i64 0] 106 ∧ Cells wr (w.heap.size + 1) #[.bool neg, .string (strL d), .int .i64 e] 106 ∧ Below w.heap.size w wr) (fun x5 _ _ => q - (intOf x5).toNat)
      case atStart => exact ⟨off, [], 0, false, rfl, rfl, Nat.le_refl _, hoq, by rw [Nat.sub_self]; rfl, by omega, by omega, Nat.zero_le _, hx, hy, hb⟩
      case round =>
        clear hx hy hb
        obtain ⟨i, d, e, p, rfl, rfl, hi1, hi2, hfold, he1, he2, hdl, hx, hy, hb⟩ := hrel
        have his : i ≤ s.size := by omega
        by_cases hlt : i < q
        · have hil : i < s.size := by omega
          have hiF : i - off < F.length := by have := Hq.out; omega
          obtain ⟨c, hcF⟩ : ∃ c, F[i - off] = c := ⟨_, rfl⟩
          have hsi : s[i]'hil = c := by rw [HF.out i hil hi1 hiF, hcF]
          have hcc := HFc.out c (by rw [← hcF]; exact List.getElem_mem _)
          have n1 : (((s[i]'hil).toNat : Int) != 101) = true := by rw [hsi]; exact u8_bn (n := 101) (front_ne hcc (by decide)) rfl
          have n2 : (((s[i]'hil).toNat : Int) != 69) = true := by rw [hsi]; exact u8_bn (n := 69) (front_ne hcc (by decide)) rfl
          have hN : Hid ((F.take (i + 1 - off)).foldl stF ([], 0, false) = stF (d, e, p) c) := Lib.hid (by
            rw [show i + 1 - off = (i - off) + 1 by omega, foldl_take stF _ F hiF, hfold, hcF])
          have Hc := Lib.hid hsi
          obtain ⟨D, hD⟩ : ∃ D, strL d = D := ⟨_, rfl⟩
          have HD := Lib.hid hD
          rw [hD] at hy
          clear hfold hcF hcc hsi hD
          have hyc0 := hy.cell 0 _ rfl
          have hyf0 := hy.frozen 0
          have hyc1 := hy.cell 1 _ rfl
          have hyf1 := hy.frozen 1
          have hyc2 := hy.cell 2 _ rfl
          have hyf2 := hy.frozen 2
          by_cases h46 : c = 46
          · have d1 : (((s[i]'hil).toNat : Int) == 46) = true := by rw [Hc.out, h46]; rfl
            have hN2 := Lib.hid (show (F.take (i + 1 - off)).foldl stF ([], 0, false) = (d, e, true) by rw [hN.out, stF, if_pos h46])
            clear hN h46
            go_wp2
            go_roundw
            case rel => exact ⟨i + 1, d, e, true, by go_num, rfl, by omega, by omega, hN2.out, by omega, by omega, by omega, hx, by rw [HD.out]; exact hy, hb⟩
            case measure => simp [intOf]; omega
          · have d1 : (((s[i]'hil).toNat : Int) == 46) = false := by rw [Hc.out]; exact u8_nb h46 rfl
            by_cases hap : d ≠ [] ∨ c ≠ 48
            · obtain ⟨D2, hD2⟩ : ∃ D2, D ++ s.extract i (i + 1) = D2 := ⟨_, rfl⟩
              have HD2 : Hid (strL (d ++ [c]) = D2) := Lib.hid (str_ext (by
                rw [← hD2, app_list, ext_list, ← HD.out, strL_list, strL_list]
                have e1 : (s.data.toList.take (i + 1)).drop i = [c] := by
                  rw [List.take_add_one, List.getElem?_eq_getElem (by rw [← size_list]; exact hil), List.drop_append_of_le_length (by rw [List.length_take, ← size_list]; omega), List.drop_eq_nil_of_le (by rw [List.length_take]; omega), List.nil_append, ← Hc.out]
                  rfl
                rw [e1]))
              have hN3 : Hid ((F.take (i + 1 - off)).foldl stF ([], 0, false) = (d ++ [c], if p then e - 1 else e, p)) := Lib.hid (by rw [hN.out, stF, if_neg h46, if_pos hap])
              have hap2 : (0 < D.size) ∨ (¬ 0 < D.size ∧ (((s[i]'hil).toNat : Int) != 48) = true) := by
                by_cases hd : d = []
                · rcases hap with h | h
                  · exact absurd hd h
                  · exact .inr ⟨by rw [← HD.out, size_strL, hd]; simp, by rw [Hc.out]; exact u8_bn h rfl⟩
                · exact .inl (by rw [← HD.out, size_strL]; exact List.length_pos_iff.2 hd)
              have hDs : D.size ≤ 1048576 := by rw [← HD.out, size_strL]; omega
              have hxs : (s.extract i (i + 1)).size ≤ 1 := by rw [ByteArray.size_extract]; omega
              clear hN h46 hap
              rcases hap2 with hz | ⟨hz, d2⟩
              · cases p with
                | true =>
                  have hN2 : Hid ((F.take (i + 1 - off)).foldl stF ([], 0, false) = (d ++ [c], e - 1, true)) := Lib.hid hN3.out
                  clear hN3
                  go_wp2_with fail
                  (go_region; go_wp2_with fail)
                  go_roundw
                  case rel => exact ⟨i + 1, d ++ [c], e - 1, true, by go_num, rfl, by omega, by omega, hN2.out, by omega, by omega, by first | omega | (simp; omega), (hx.setOther _ _ (by simp)).setOther _ _ (by simp), by rw [HD2.out]; exact (hy.set 2 (by simp) _).set 1 (by simp) _, by (repeat' (first | (with_reducible refine Below.setCell ?_ ?_ _) | (with_reducible refine Below.alloc ?_ ?_ _) | (with_reducible refine Below.drew ?_) | (with_reducible refine below_drewN ?_ _) | (with_reducible assumption) | (with_reducible exact Below.refl _ _) | (simp only [World.size_alloc, World.size_setCell, World.size_drew]; done) | (simp only [World.size_alloc, World.size_setCell, World.size_drew]; omega) | omega))⟩
                  case measure => simp [intOf]; omega
                | false =>
                  have hN2 : Hid ((F.take (i + 1 - off)).foldl stF ([], 0, false) = (d ++ [c], e, false)) := Lib.hid hN3.out
                  clear hN3
                  go_wp2_with fail
                  (go_region; go_wp2_with fail)
                  go_roundw
                  case rel => exact ⟨i + 1, d ++ [c], e, false, by go_num, rfl, by omega, by omega, hN2.out, by omega, by omega, by first | omega | (simp; omega), hx.setOther _ _ (by simp), by rw [HD2.out]; exact hy.set 1 (by simp) _, by (repeat' (first | (with_reducible refine Below.setCell ?_ ?_ _) | (with_reducible refine Below.alloc ?_ ?_ _) | (with_reducible refine Below.drew ?_) | (with_reducible refine below_drewN ?_ _) | (with_reducible assumption) | (with_reducible exact Below.refl _ _) | (simp only [World.size_alloc, World.size_setCell, World.size_drew]; done) | (simp only [World.size_alloc, World.size_setCell, World.size_drew]; omega) | omega))⟩
                  case measure => simp [intOf]; omega
              · cases p with
                | true =>
                  have hN2 : Hid ((F.take (i + 1 - off)).foldl stF ([], 0, false) = (d ++ [c], e - 1, true)) := Lib.hid hN3.out
                  clear hN3
                  go_wp2_with fail
                  (go_region; go_wp2_with fail)
                  go_roundw
                  case rel => exact ⟨i + 1, d ++ [c], e - 1, true, by go_num, rfl, by omega, by omega, hN2.out, by omega, by omega, by first | omega | (simp; omega), (hx.setOther _ _ (by simp)).setOther _ _ (by simp), by rw [HD2.out]; exact (hy.set 2 (by simp) _).set 1 (by simp) _, by (repeat' (first | (with_reducible refine Below.setCell ?_ ?_ _) | (with_reducible refine Below.alloc ?_ ?_ _) | (with_reducible refine Below.drew ?_) | (with_reducible refine below_drewN ?_ _) | (with_reducible assumption) | (with_reducible exact Below.refl _ _) | (simp only [World.size_alloc, World.size_setCell, World.size_drew]; done) | (simp only [World.size_alloc, World.size_setCell, World.size_drew]; omega) | omega))⟩
                  case measure => simp [intOf]; omega
                | false =>
                  have hN2 : Hid ((F.take (i + 1 - off)).foldl stF ([], 0, false) = (d ++ [c], e, false)) := Lib.hid hN3.out
                  clear hN3
                  go_wp2_with fail
                  (go_region; go_wp2_with fail)
                  go_roundw
                  case rel => exact ⟨i + 1, d ++ [c], e, false, by go_num, rfl, by omega, by omega, hN2.out, by omega, by omega, by first | omega | (simp; omega), hx.setOther _ _ (by simp), by rw [HD2.out]; exact hy.set 1 (by simp) _, by (repeat' (first | (with_reducible refine Below.setCell ?_ ?_ _) | (with_reducible refine Below.alloc ?_ ?_ _) | (with_reducible refine Below.drew ?_) | (with_reducible refine below_drewN ?_ _) | (with_reducible assumption) | (with_reducible exact Below.refl _ _) | (simp only [World.size_alloc, World.size_setCell, World.size_drew]; done) | (simp only [World.size_alloc, World.size_setCell, World.size_drew]; omega) | omega))⟩
                  case measure => simp [intOf]; omega
            · have hN3 : Hid ((F.take (i + 1 - off)).foldl stF ([], 0, false) = (d, if p then e - 1 else e, p)) := Lib.hid (by rw [hN.out, stF, if_neg h46, if_neg hap])
              have hap2 : d = [] ∧ c = 48 := by
                refine ⟨?_, ?_⟩
                · by_cases hd : d = []
                  · exact hd
                  · exact absurd (.inl hd) hap
                · by_cases hd : c = 48
                  · exact hd
                  · exact absurd (.inr hd) hap
              have hz : ¬ 0 < D.size := by rw [← HD.out, size_strL, hap2.1]; simp
              have d2 : (((s[i]'hil).toNat : Int) != 48) = false := by rw [Hc.out, hap2.2]; rfl
              clear hN h46 hap hap2
              cases p with
              | true =>
                have hN2 : Hid ((F.take (i + 1 - off)).foldl stF ([], 0, false) = (d, e - 1, true)) := Lib.hid hN3.out
                clear hN3
                go_wp2_with fail
                skip
                go_roundw
                case rel => exact ⟨i + 1, d, e - 1, true, by go_num, rfl, by omega, by omega, hN2.out, by omega, by omega, by first | omega | (simp; omega), hx.setOther _ _ (by simp), by rw [HD.out]; exact hy.set 2 (by simp) _, by (repeat' (first | (with_reducible refine Below.setCell ?_ ?_ _) | (with_reducible refine Below.alloc ?_ ?_ _) | (with_reducible refine Below.drew ?_) | (with_reducible refine below_drewN ?_ _) | (with_reducible assumption) | (with_reducible exact Below.refl _ _) | (simp only [World.size_alloc, World.size_setCell, World.size_drew]; done) | (simp only [World.size_alloc, World.size_setCell, World.size_drew]; omega) | omega))⟩
                case measure => simp [intOf]; omega
              | false =>
                have hN2 : Hid ((F.take (i + 1 - off)).foldl stF ([], 0, false) = (d, e, false)) := Lib.hid hN3.out
                clear hN3
                go_wp2_with fail
                skip
                go_roundw
                case rel => exact ⟨i + 1, d, e, false, by go_num, rfl, by omega, by omega, hN2.out, by omega, by omega, by first | omega | (simp; omega), hx, by rw [HD.out]; exact hy, by (repeat' (first | (with_reducible refine Below.setCell ?_ ?_ _) | (with_reducible refine Below.alloc ?_ ?_ _) | (with_reducible refine Below.drew ?_) | (with_reducible refine below_drewN ?_ _) | (with_reducible assumption) | (with_reducible exact Below.refl _ _) | (simp only [World.size_alloc, World.size_setCell, World.size_drew]; done) | (simp only [World.size_alloc, World.size_setCell, World.size_drew]; omega) | omega))⟩
                case measure => simp [intOf]; omega
        · obtain rfl : i = q := by omega
          have hfin : Hid (d = valD ip fr ∧ e = -(fr.length : Int)) := Lib.hid (by
            have h1 := hfold
            rw [show i - off = F.length by have := Hq.out; omega, List.take_length, HgF.out] at h1
            exact ⟨(congrArg (fun x => x.1) h1).symm, (congrArg (fun x => x.2.1) h1).symm⟩)
          clear hfold
          clear hlt hi2 his
          go_wp2_with fail
          clear hs2
          go_loop [5, 7, 8] (fun x5 x7 x8 => ∃ (k n : Nat) (p : Bool), x5 = .int .i64 k ∧ x7 = .int .i64 n ∧ x8 = .bool p ∧ i + 1 ≤ k ∧ k ≤ i + 1 + R.length ∧ (R.take (k - (i + 1))).foldl stP (0, false) = (n, p) ∧ n < 10000000000) (fun x5 _ _ => i + 1 + R.length - (intOf x5).toNat)
          case atStart => exact ⟨i + 1, 0, false, by go_num, rfl, rfl, Nat.le_refl _, by omega, by rw [Nat.sub_self]; rfl, by omega⟩
          case round =>
            obtain ⟨k, n, p, rfl, rfl, rfl, hk1, hk2, hfold, hnb⟩ := hrel
            have hD := fun W => rdig_any s k W (by omega)
            by_cases hks : k < s.size
            · have hkR := HRl.out k hks hk1
              obtain ⟨c, hcR⟩ : ∃ c, R[k - (i + 1)]'(by omega) = c := ⟨_, rfl⟩
              have hsk : s[k]'hks = c := by rw [HRat.out k hks hk1 (by omega), hcR]
              have hN : Hid ((R.take (k + 1 - (i + 1))).foldl stP (0, false) = stP (n, p) c) := Lib.hid (by
                rw [show k + 1 - (i + 1) = (k - (i + 1)) + 1 by omega, foldl_take stP _ R (by omega), hfold, hcR])
              have hdig : digB s k = dg c := by
                rw [digB, digs_at hks, hsk]
                cases dg c <;> simp
              rw [hdig] at hD
              clear hfold hcR hdig
              by_cases h45 : c = 45
              · have hN2 := Lib.hid (show (R.take (k + 1 - (i + 1))).foldl stP (0, false) = (n, true) by rw [hN.out, stP, h45]; simp [show dg 45 = false from rfl])
                rw [h45] at hD hsk
                have hD2 : ∀ W, Calls Tryz.prog 91 #[.string s, .int .i64 k] W fun r w' => r = .returned (.bool false) ∧ W = w' := hD
                have d1 : (((s[k]'hks).toNat : Int) == 45) = true := by rw [hsk]; rfl
                clear hN h45 hD hsk
                go_wp2_with ((with_reducible refine (hD2 _).mono ?_); rintro _ _ ⟨rfl, rfl⟩)
                go_round
                case rel => exact ⟨k + 1, n, true, by go_num, rfl, rfl, by omega, by omega, hN2.out, hnb⟩
                case measure => (simp [intOf] <;> omega)
              · have d1 : (((s[k]'hks).toNat : Int) == 45) = false := by rw [hsk]; exact u8_nb h45 rfl
                cases hdc : dg c with
                | false =>
                  have hN2 := Lib.hid (show (R.take (k + 1 - (i + 1))).foldl stP (0, false) = (n, p) by rw [hN.out, stP, hdc]; simp [h45])
                  rw [hdc] at hD
                  clear hN h45 hsk hdc
                  go_wp2_with ((with_reducible refine (hD _).mono ?_); rintro _ _ ⟨rfl, rfl⟩)
                  go_round
                  case rel => exact ⟨k + 1, n, p, by go_num, rfl, rfl, by omega, by omega, hN2.out, hnb⟩
                  case measure => simp [intOf] <;> omega
                | true =>
                  have hcb : 48 ≤ (s[k]'hks).toNat ∧ (s[k]'hks).toNat ≤ 57 := by rw [hsk]; exact dg_lt hdc
                  have hN2 := Lib.hid (show (R.take (k + 1 - (i + 1))).foldl stP (0, false) = (addQ n c, p) by rw [hN.out, stP, hdc]; simp [h45])
                  rw [hdc] at hD
                  have Hsk := Lib.hid hsk
                  clear hN h45 hdc hsk d1
                  have d1 : ¬ ((s[k]'hks).toNat : Int) = 45 := by omega
                  by_cases hn9 : n < 1000000000
                  · have hn7 : n ≤ 999999999 := by omega
                    have hA := Lib.hid (show addQ n c = n * 10 + (c.toNat - 48) by rw [addQ, if_pos hn9])
                    have HN9 := Lib.hid hn9
                    clear hnb hn9
                    go_upto_region 22 with fail
                    go_upto_if 82 with fail
                    go_upto_region 24 with fail
                    go_upto_if 89 with ((with_reducible refine (hD _).mono ?_); rintro _ _ ⟨rfl, rfl⟩)
                    rw [show decide ((n : Int) < 1000000000) = true from decide_eq_true (by omega)]
                    go_wp2
                    go_round
                    case rel => exact ⟨k + 1, addQ n c, p, by go_num, by rw [hA.out, ← Hsk.out]; congr 1; have := HN9.out; (try unfold wrap64); omega, rfl, by omega, by omega, hN2.out, by rw [hA.out, ← Hsk.out]; have := HN9.out; omega⟩
                    case measure => (simp [intOf] <;> omega)
                  · have hn7 : 1000000000 ≤ n := by omega
                    have hA := Lib.hid (show addQ n c = n by rw [addQ, if_neg hn9])
                    have HNb := Lib.hid hnb
                    clear hn9 hnb
                    go_upto_region 22 with fail
                    go_upto_if 82 with fail
                    go_upto_region 24 with fail
                    go_upto_if 89 with ((with_reducible refine (hD _).mono ?_); rintro _ _ ⟨rfl, rfl⟩)
                    rw [show decide ((n : Int) < 1000000000) = false from decide_eq_false (by omega)]
                    go_wp2
                    go_round
                    case rel => exact ⟨k + 1, addQ n c, p, by go_num, by rw [hA.out], rfl, by omega, by omega, hN2.out, by rw [hA.out]; exact HNb.out⟩
                    case measure => (simp [intOf] <;> omega)
            · have hk3 := HRe.out k hks hk1 hk2
              have hfin2 : n = pw.foldl addQ 0 ∧ p = decide (sg = [45]) := by
                have h1 := hfold
                rw [show k - (i + 1) = R.length by omega, List.take_length, HgR.out] at h1
                exact ⟨(congrArg (fun x => x.1) h1).symm, (congrArg (fun x => x.2) h1).symm⟩
              have hPw : powQ sg pw = if p then -(n : Int) else n := by
                rw [powQ, sgn, hfin2.1, hfin2.2]
                by_cases h : sg = [45] <;> simp [h]
              obtain ⟨P, hP⟩ : ∃ P, powQ sg pw = P := ⟨_, rfl⟩
              have HP := Lib.hid hP
              rw [hP] at hPw
              have HPw := Lib.hid hPw
              have hPb : -10000000000 ≤ P ∧ P ≤ 10000000000 := by rw [hPw]; split <;> omega
              clear hfold hfin2 hPw hP hk3 hD
              go_upto_if 98 with fail
              go_cut [7] (fun x wc => x = .int .i64 P ∧ wr = wc)
              case first =>
                cases p with
                | false =>
                  go_wp2
                  go_meet
                  case rel => exact ⟨by rw [HPw.out]; rfl, rfl⟩
                | true =>
                  go_wp2
                  go_meet
                  case rel => exact ⟨by rw [HPw.out]; simp, rfl⟩
              case rest =>
                obtain ⟨rfl, rfl⟩ := hcut
                rw [hfin.out.1, hfin.out.2] at hy
                clear hfin he1 he2 hdl HPw
                have hyc0 := hy.cell 0 _ rfl
                have hyf0 := hy.frozen 0
                have hyc1 := hy.cell 1 _ rfl
                have hyf1 := hy.frozen 1
                have hyc2 := hy.cell 2 _ rfl
                have hyf2 := hy.frozen 2
                go_wp2_with fail
                go_loopw [] (fun wr2 => ∃ (d : Bs) (e : Int), Lib.trimRightB d 48 = valC ip fr ∧ e + d.length = -(fr.length : Int) + P + (valD ip fr).length ∧ d.length ≤ (valD ip fr).length ∧ Cells wr2 w.heap.size #[.bool false, .string ⟨#[]⟩, .int .i64 0] 106 ∧ Cells wr2 (w.heap.size + 1) #[.bool neg, .string (strL d), .int .i64 e] 106 ∧ Below w.heap.size w wr2) (fun wr2 => match wr2.cell? ⟨w.heap.size + 1, 1, none⟩ with | some v => Lib.strSize v | none => 0)
                case atStart => exact ⟨valD ip fr, -(fr.length : Int) + P, rfl, rfl, Nat.le_refl _, hx.setOther _ _ (by simp), hy.set 2 (by simp) _, by (repeat' (first | (with_reducible refine Below.setCell ?_ ?_ _) | (with_reducible refine Below.alloc ?_ ?_ _) | (with_reducible refine Below.drew ?_) | (with_reducible refine below_drewN ?_ _) | (with_reducible assumption) | (with_reducible exact Below.refl _ _) | (simp only [World.size_alloc, World.size_setCell, World.size_drew]; done) | (simp only [World.size_alloc, World.size_setCell, World.size_drew]; omega) | omega))⟩
                case round =>
                  clear hx hy hb hyc0 hyc1 hyc2 hyf0 hyf1 hyf2
                  obtain ⟨d, e, ht, he, hdl, hx, hy, hb⟩ := hrel
                  have hds : (strL d).size = d.length := size_strL d
                  have heb : -20000000000 ≤ e ∧ e ≤ 20000000000 := by omega
                  rcases eq_nil_or_snoc d with hd0 | ⟨d', c, hd0⟩
                  · subst hd0
                    have hV := Lib.hid (show numVal neg ip fr (powQ sg pw) = ((false, [], 0), 0) by
                      rw [numVal, if_pos (show valC ip fr = [] from ht.symm)])
                    have hy : Cells wr (w.heap.size + 1) #[.bool neg, .string ⟨#[]⟩, .int .i64 e] 106 := hy
                    have hz : ((⟨#[]⟩ : ByteArray).size : Int) = 0 := rfl
                    clear ht he hdl hds
                    have hxc0 := hx.cell 0 _ rfl
                    have hxf0 := hx.frozen 0
                    have hxc1 := hx.cell 1 _ rfl
                    have hxf1 := hx.frozen 1
                    have hxc2 := hx.cell 2 _ rfl
                    have hxf2 := hx.frozen 2
                    have hyc0 := hy.cell 0 _ rfl
                    have hyf0 := hy.frozen 0
                    have hyc1 := hy.cell 1 _ rfl
                    have hyf1 := hy.frozen 1
                    have hyc2 := hy.cell 2 _ rfl
                    have hyf2 := hy.frozen 2
                    go_wp2
                    refine bodyPost_ret (v := numOut ((false, [], 0), 0)) (by simp [results, Tryz.results65, go_sem, numOut, strL, hxc0, hxc1, hxc2]) rfl ⟨by rw [hV.out], ?_⟩
                    (repeat' (first | (with_reducible refine Below.setCell ?_ ?_ _) | (with_reducible refine Below.alloc ?_ ?_ _) | (with_reducible refine Below.drew ?_) | (with_reducible refine below_drewN ?_ _) | (with_reducible assumption) | (with_reducible exact Below.refl _ _) | (simp only [World.size_alloc, World.size_setCell, World.size_drew]; done) | (simp only [World.size_alloc, World.size_setCell, World.size_drew]; omega) | omega))
                  · subst hd0
                    obtain ⟨D, hD⟩ : ∃ D, strL (d' ++ [c]) = D := ⟨_, rfl⟩
                    rw [hD] at hy hds
                    have hDm : D.size = d'.length + 1 := by rw [hds]; simp
                    have hDp : 0 < D.size := by omega
                    have hDb : D.size ≤ 1048576 := by omega
                    have hDn : D.size - 1 < D.size := by omega
                    have hDi : 0 ≤ (D.size : Int) - 1 ∧ (D.size : Int) - 1 < (D.size : Int) := by omega
                    have hDl : D[D.size - 1]'hDn = c := by
                      subst hD
                      rw [strL_at]
                      simp [size_strL]
                    by_cases h48 : c = 48
                    · have d2 : (((D[D.size - 1]'hDn).toNat : Int) == 48) = true := by rw [hDl, h48]; rfl
                      have hx2 : D.extract 0 (D.size - 1) = strL d' := by
                        rw [← hD, strL_ext, size_strL]
                        simp
                      have ht2 : Lib.trimRightB d' 48 = valC ip fr := by rw [← ht, trimR_snoc, if_pos h48]
                      have hl2 : d'.length ≤ (valD ip fr).length := by simp at hdl; omega
                      have he2 : e + 1 + d'.length = -(fr.length : Int) + P + (valD ip fr).length := by rw [← he]; simp; omega
                      have HT := Lib.hid ht2
                      have HE := Lib.hid he2
                      have hme : d'.length < D.size := by omega
                      clear ht he hdl hds hDm hDl h48 hD ht2 he2
                      obtain ⟨D2, hD2⟩ : ∃ D2, strL d' = D2 := ⟨_, rfl⟩
                      have hsz2 := Lib.hid (show D2.size = d'.length by rw [← hD2, size_strL])
                      have HD2 := Lib.hid hD2
                      rw [hD2] at hx2
                      clear hD2
                      have hyc0 := hy.cell 0 _ rfl
                      have hyf0 := hy.frozen 0
                      have hyc1 := hy.cell 1 _ rfl
                      have hyf1 := hy.frozen 1
                      have hyc2 := hy.cell 2 _ rfl
                      have hyf2 := hy.frozen 2
                      go_wp2
                      go_roundw
                      case rel => exact ⟨d', e + 1, HT.out, HE.out, hl2, (hx.setOther _ _ (by simp)).setOther _ _ (by simp), by rw [HD2.out]; exact (hy.set 1 (by simp) _).set 2 (by simp) _, by (repeat' (first | (with_reducible refine Below.setCell ?_ ?_ _) | (with_reducible refine Below.alloc ?_ ?_ _) | (with_reducible refine Below.drew ?_) | (with_reducible refine below_drewN ?_ _) | (with_reducible assumption) | (with_reducible exact Below.refl _ _) | (simp only [World.size_alloc, World.size_setCell, World.size_drew]; done) | (simp only [World.size_alloc, World.size_setCell, World.size_drew]; omega) | omega))⟩
                      case measure =>
                        have m1 := ((hy.set 1 (by simp) (.string D2)).set 2 (by simp) (.int .i64 (e + 1))).cell 1 _ rfl
                        rw [m1, hyc1]
                        show D2.size < D.size
                        rw [hsz2.out]
                        exact hme
                    · have d2 : (((D[D.size - 1]'hDn).toNat : Int) == 48) = false := by rw [hDl]; exact u8_nb h48 rfl
                      have hvc : d' ++ [c] = valC ip fr := by rw [← ht, trimR_snoc, if_neg h48]
                      have hDz : ((D.size : Int) == 0) = false := by rw [beq_eq_false_iff_ne]; omega
                      have hRr := fun W => rNumRight_any neg D e W hDb
                      have hV := Lib.hid (show numVal neg ip fr (powQ sg pw) = if numR neg D e then ((neg, valC ip fr, e), 0) else ((false, [], 0), 4) by
                        have hc0 : valC ip fr ≠ [] := by rw [← hvc]; simp
                        have hEE : valE ip fr (powQ sg pw) = e := by
                          have h1 := HP.out
                          have h2 : (valC ip fr).length ≤ (valD ip fr).length := trimR_le _
                          rw [valE, h1]
                          rw [hvc] at he
                          omega
                        rw [numVal, if_neg hc0, hEE, show (⟨(valC ip fr).toArray⟩ : ByteArray) = D by rw [← hvc]; exact hD])
                      have HC := Lib.hid (show strL (valC ip fr) = D by rw [← hvc]; exact hD)
                      clear ht he hdl hds hDm hDl h48 hD hvc
                      have hxc0 := hx.cell 0 _ rfl
                      have hxf0 := hx.frozen 0
                      have hxc1 := hx.cell 1 _ rfl
                      have hxf1 := hx.frozen 1
                      have hxc2 := hx.cell 2 _ rfl
                      have hxf2 := hx.frozen 2
                      have hyc0 := hy.cell 0 _ rfl
                      have hyf0 := hy.frozen 0
                      have hyc1 := hy.cell 1 _ rfl
                      have hyf1 := hy.frozen 1
                      have hyc2 := hy.cell 2 _ rfl
                      have hyf2 := hy.frozen 2
                      cases hr : numR neg D e with
                      | true =>
                        have hV2 := Lib.hid (show numVal neg ip fr (powQ sg pw) = ((neg, valC ip fr, e), 0) by rw [hV.out, if_pos hr])
                        rw [hr] at hRr
                        clear hV hr
                        go_wp2_with fail
                        refine (hRr _).mono ?_
                        rintro _ w2 ⟨rfl, hb2⟩
                        have hx2 := hx.below hb2 hx.lt
                        have hy2 := hy.below hb2 hy.lt
                        have hb3 := hb.trans (hb2.mono hb.size)
                        clear hb2 hxc0 hxc1 hxc2 hxf0 hxf1 hxf2 hyc0 hyc1 hyc2 hyf0 hyf1 hyf2
                        have hx2c0 := hx2.cell 0 _ rfl
                        have hx2f0 := hx2.frozen 0
                        have hx2c1 := hx2.cell 1 _ rfl
                        have hx2f1 := hx2.frozen 1
                        have hx2c2 := hx2.cell 2 _ rfl
                        have hx2f2 := hx2.frozen 2
                        have hy2c0 := hy2.cell 0 _ rfl
                        have hy2f0 := hy2.frozen 0
                        have hy2c1 := hy2.cell 1 _ rfl
                        have hy2f1 := hy2.frozen 1
                        have hy2c2 := hy2.cell 2 _ rfl
                        have hy2f2 := hy2.frozen 2
                        go_wp2
                        have hCe := HC.out
                        refine bodyPost_ret (v := numOut ((neg, valC ip fr, e), 0)) (by simp [results, Tryz.results65, go_sem, numOut, hCe, hx2c0, hx2c1, hx2c2]) rfl ⟨by rw [hV2.out], ?_⟩
                        (repeat' (first | (with_reducible refine Below.setCell ?_ ?_ _) | (with_reducible refine Below.alloc ?_ ?_ _) | (with_reducible refine Below.drew ?_) | (with_reducible refine below_drewN ?_ _) | (with_reducible assumption) | (with_reducible exact Below.refl _ _) | (simp only [World.size_alloc, World.size_setCell, World.size_drew]; done) | (simp only [World.size_alloc, World.size_setCell, World.size_drew]; omega) | omega))
                      | false =>
                        have hV2 := Lib.hid (show numVal neg ip fr (powQ sg pw) = ((false, [], 0), 4) by rw [hV.out, if_neg (by rw [hr]; decide)])
                        rw [hr] at hRr
                        clear hV hr
                        go_wp2_with fail
                        refine (hRr _).mono ?_
                        rintro _ w2 ⟨rfl, hb2⟩
                        have hx2 := hx.below hb2 hx.lt
                        have hy2 := hy.below hb2 hy.lt
                        have hb3 := hb.trans (hb2.mono hb.size)
                        clear hb2 hxc0 hxc1 hxc2 hxf0 hxf1 hxf2 hyc0 hyc1 hyc2 hyf0 hyf1 hyf2
                        have hx2c0 := hx2.cell 0 _ rfl
                        have hx2f0 := hx2.frozen 0
                        have hx2c1 := hx2.cell 1 _ rfl
                        have hx2f1 := hx2.frozen 1
                        have hx2c2 := hx2.cell 2 _ rfl
                        have hx2f2 := hx2.frozen 2
                        have hy2c0 := hy2.cell 0 _ rfl
                        have hy2f0 := hy2.frozen 0
                        have hy2c1 := hy2.cell 1 _ rfl
                        have hy2f1 := hy2.frozen 1
                        have hy2c2 := hy2.cell 2 _ rfl
                        have hy2f2 := hy2.frozen 2
                        go_wp2
                        refine bodyPost_ret (v := numOut ((false, [], 0), 4)) (by simp [results, Tryz.results65, go_sem, numOut, strL, hx2c0, hx2c1, hx2c2]) rfl ⟨by rw [hV2.out], ?_⟩
                        (repeat' (first | (with_reducible refine Below.setCell ?_ ?_ _) | (with_reducible refine Below.alloc ?_ ?_ _) | (with_reducible refine Below.drew ?_) | (with_reducible refine below_drewN ?_ _) | (with_reducible assumption) | (with_reducible exact Below.refl _ _) | (simp only [World.size_alloc, World.size_setCell, World.size_drew]; done) | (simp only [World.size_alloc, World.size_setCell, World.size_drew]; omega) | omega))
  · skip
    obtain ⟨hqi, hqm⟩ := hmark _ rfl
    clear hmark
    have hs1 := Lib.hid (show s.size = q + 1 + R.length by have := Hsz.out; have := Hq.out; simp at *; omega)
    have HRat : Hid (∀ k (hk : k < s.size) (h1 : q + 1 ≤ k) (h2 : k - (q + 1) < R.length), s[k]'hk = R[k - (q + 1)]) := Lib.hid (fun k hk h1 h2 => by
      have e := Hq.out
      subst e
      exact HR.out k hk h1 h2)
    have HRl : Hid (∀ k, k < s.size → q + 1 ≤ k → k - (q + 1) < R.length) := Lib.hid (fun k hk h1 => by have := hs1.out; omega)
    have HRe : Hid (∀ k, ¬ k < s.size → q + 1 ≤ k → k ≤ q + 1 + R.length → k - (q + 1) = R.length) := Lib.hid (fun k h1 h2 h3 => by have := hs1.out; omega)
    have hRlen : R.length ≤ 1048576 := by have := hs1.out; omega
    clear HR Hsz
    have hs2 : (((s[q]'hqi).toNat : Int) != 101) = true := by rw [hqm]; rfl
    have hs3 : (((s[q]'hqi).toNat : Int) != 69) = false := by rw [hqm]; rfl
    clear hqm
    go_enter Tryz.func65, Tryz.ntmps65
    go_wp2_with fail
    refine (hS _).mono ?_
    rintro _ _ ⟨rfl, rfl⟩
    go_upto_if 23 with fail
    clear hS hz hn
    go_cut [5] (fun x wc => x = .int .i64 off ∧ Cells wc w.heap.size #[.bool false, .string ⟨#[]⟩, .int .i64 0] 106 ∧ Cells wc (w.heap.size + 1) #[.bool neg, .string ⟨#[]⟩, .int .i64 0] 106 ∧ Below w.heap.size w wc)
    case first =>
      have hb0 := fun b : Bool => (show Below w.heap.size w ((w.alloc (.cells #[.bool false, .string ⟨#[]⟩, .int .i64 0] 106)).alloc (.cells #[.bool b, .string ⟨#[]⟩, .int .i64 0] 106)) from ((Below.refl _ w).alloc (Nat.le_refl _) _).alloc (by simp) _)
      have hc0 := fun b : Bool => (Cells.new w #[.bool false, .string ⟨#[]⟩, .int .i64 0] 106).alloc (.cells #[.bool b, .string ⟨#[]⟩, .int .i64 0] 106)
      have hc1 := fun b : Bool => Cells.new (w.alloc (.cells #[.bool false, .string ⟨#[]⟩, .int .i64 0] 106)) #[.bool b, .string ⟨#[]⟩, .int .i64 0] 106
      rw [World.size_alloc] at hc1
      cases neg with
      | false =>
        have Hoff := Lib.hid (show 0 = off from hoff)
        clear hoff
        go_wp2
        go_meet
        case rel => exact ⟨by rw [← Hoff.out]; rfl, hc0 _, hc1 _, hb0 _⟩
      | true =>
        have Hoff := Lib.hid (show 1 = off from hoff)
        clear hoff
        go_wp2
        go_meet
        case rel => exact ⟨by rw [← Hoff.out]; rfl, hc0 _, hc1 _, hb0 _⟩
    case rest =>
      obtain ⟨rfl, hx, hy, hb⟩ := hcut
      clear hneg hoff
      go_wp2_with fail
      go_loopw [5, 6] (fun x5 x6 wr => ∃ (i : Nat) (d : Bs) (e : Int) (p : Bool), x5 = .int .i64 i ∧ x6 = .bool p ∧ off ≤ i ∧ i ≤ q ∧ (F.take (i - off)).foldl stF ([], 0, false) = (d, e, p) ∧ -(i : Int) ≤ e ∧ e ≤ 0 ∧ d.length ≤ i ∧ Cells wr w.heap.size #[.bool false, .string ⟨#[]⟩, .int .i64 0] 106 ∧ Cells wr (w.heap.size + 1) #[.bool neg, .string (strL d), .int .i64 e] 106 ∧ Below w.heap.size w wr) (fun x5 _ _ => q - (intOf x5).toNat)
      case atStart => exact ⟨off, [], 0, false, rfl, rfl, Nat.le_refl _, hoq, by rw [Nat.sub_self]; rfl, by omega, by omega, Nat.zero_le _, hx, hy, hb⟩
      case round =>
        clear hx hy hb
        obtain ⟨i, d, e, p, rfl, rfl, hi1, hi2, hfold, he1, he2, hdl, hx, hy, hb⟩ := hrel
        have his : i ≤ s.size := by omega
        by_cases hlt : i < q
        · have hil : i < s.size := by omega
          have hiF : i - off < F.length := by have := Hq.out; omega
          obtain ⟨c, hcF⟩ : ∃ c, F[i - off] = c := ⟨_, rfl⟩
          have hsi : s[i]'hil = c := by rw [HF.out i hil hi1 hiF, hcF]
          have hcc := HFc.out c (by rw [← hcF]; exact List.getElem_mem _)
          have n1 : (((s[i]'hil).toNat : Int) != 101) = true := by rw [hsi]; exact u8_bn (n := 101) (front_ne hcc (by decide)) rfl
          have n2 : (((s[i]'hil).toNat : Int) != 69) = true := by rw [hsi]; exact u8_bn (n := 69) (front_ne hcc (by decide)) rfl
          have hN : Hid ((F.take (i + 1 - off)).foldl stF ([], 0, false) = stF (d, e, p) c) := Lib.hid (by
            rw [show i + 1 - off = (i - off) + 1 by omega, foldl_take stF _ F hiF, hfold, hcF])
          have Hc := Lib.hid hsi
          obtain ⟨D, hD⟩ : ∃ D, strL d = D := ⟨_, rfl⟩
          have HD := Lib.hid hD
          rw [hD] at hy
          clear hfold hcF hcc hsi hD
          have hyc0 := hy.cell 0 _ rfl
          have hyf0 := hy.frozen 0
          have hyc1 := hy.cell 1 _ rfl
          have hyf1 := hy.frozen 1
          have hyc2 := hy.cell 2 _ rfl
          have hyf2 := hy.frozen 2
          by_cases h46 : c = 46
          · have d1 : (((s[i]'hil).toNat : Int) == 46) = true := by rw [Hc.out, h46]; rfl
            have hN2 := Lib.hid (show (F.take (i + 1 - off)).foldl stF ([], 0, false) = (d, e, true) by rw [hN.out, stF, if_pos h46])
            clear hN h46
            go_wp2
            go_roundw
            case rel => exact ⟨i + 1, d, e, true, by go_num, rfl, by omega, by omega, hN2.out, by omega, by omega, by omega, hx, by rw [HD.out]; exact hy, hb⟩
            case measure => simp [intOf]; omega
          · have d1 : (((s[i]'hil).toNat : Int) == 46) = false := by rw [Hc.out]; exact u8_nb h46 rfl
            by_cases hap : d ≠ [] ∨ c ≠ 48
            · obtain ⟨D2, hD2⟩ : ∃ D2, D ++ s.extract i (i + 1) = D2 := ⟨_, rfl⟩
              have HD2 : Hid (strL (d ++ [c]) = D2) := Lib.hid (str_ext (by
                rw [← hD2, app_list, ext_list, ← HD.out, strL_list, strL_list]
                have e1 : (s.data.toList.take (i + 1)).drop i = [c] := by
                  rw [List.take_add_one, List.getElem?_eq_getElem (by rw [← size_list]; exact hil), List.drop_append_of_le_length (by rw [List.length_take, ← size_list]; omega), List.drop_eq_nil_of_le (by rw [List.length_take]; omega), List.nil_append, ← Hc.out]
                  rfl
                rw [e1]))
              have hN3 : Hid ((F.take (i + 1 - off)).foldl stF ([], 0, false) = (d ++ [c], if p then e - 1 else e, p)) := Lib.hid (by rw [hN.out, stF, if_neg h46, if_pos hap])
              have hap2 : (0 < D.size) ∨ (¬ 0 < D.size ∧ (((s[i]'hil).toNat : Int) != 48) = true) := by
                by_cases hd : d = []
                · rcases hap with h | h
                  · exact absurd hd h
                  · exact .inr ⟨by rw [← HD.out, size_strL, hd]; simp, by rw [Hc.out]; exact u8_bn h rfl⟩
                · exact .inl (by rw [← HD.out, size_strL]; exact List.length_pos_iff.2 hd)
              have hDs : D.size ≤ 1048576 := by rw [← HD.out, size_strL]; omega
              have hxs : (s.extract i (i + 1)).size ≤ 1 := by rw [ByteArray.size_extract]; omega
              clear hN h46 hap
              rcases hap2 with hz | ⟨hz, d2⟩
              · cases p with
                | true =>
                  have hN2 : Hid ((F.take (i + 1 - off)).foldl stF ([], 0, false) = (d ++ [c], e - 1, true)) := Lib.hid hN3.out
                  clear hN3
                  go_wp2_with fail
                  (go_region; go_wp2_with fail)
                  go_roundw
                  case rel => exact ⟨i + 1, d ++ [c], e - 1, true, by go_num, rfl, by omega, by omega, hN2.out, by omega, by omega, by first | omega | (simp; omega), (hx.setOther _ _ (by simp)).setOther _ _ (by simp), by rw [HD2.out]; exact (hy.set 2 (by simp) _).set 1 (by simp) _, by (repeat' (first | (with_reducible refine Below.setCell ?_ ?_ _) | (with_reducible refine Below.alloc ?_ ?_ _) | (with_reducible refine Below.drew ?_) | (with_reducible refine below_drewN ?_ _) | (with_reducible assumption) | (with_reducible exact Below.refl _ _) | (simp only [World.size_alloc, World.size_setCell, World.size_drew]; done) | (simp only [World.size_alloc, World.size_setCell, World.size_drew]; omega) | omega))⟩
                  case measure => simp [intOf]; omega
                | false =>
                  have hN2 : Hid ((F.take (i + 1 - off)).foldl stF ([], 0, false) = (d ++ [c], e, false)) := Lib.hid hN3.out
                  clear hN3
                  go_wp2_with fail
                  (go_region; go_wp2_with fail)
                  go_roundw
                  case rel => exact ⟨i + 1, d ++ [c], e, false, by go_num, rfl, by omega, by omega, hN2.out, by omega, by omega, by first | omega | (simp; omega), hx.setOther _ _ (by simp), by rw [HD2.out]; exact hy.set 1 (by simp) _, by (repeat' (first | (with_reducible refine Below.setCell ?_ ?_ _) | (with_reducible refine Below.alloc ?_ ?_ _) | (with_reducible refine Below.drew ?_) | (with_reducible refine below_drewN ?_ _) | (with_reducible assumption) | (with_reducible exact Below.refl _ _) | (simp only [World.size_alloc, World.size_setCell, World.size_drew]; done) | (simp only [World.size_alloc, World.size_setCell, World.size_drew]; omega) | omega))⟩
                  case measure => simp [intOf]; omega
              · cases p with
                | true =>
                  have hN2 : Hid ((F.take (i + 1 - off)).foldl stF ([], 0, false) = (d ++ [c], e - 1, true)) := Lib.hid hN3.out
                  clear hN3
                  go_wp2_with fail
                  (go_region; go_wp2_with fail)
                  go_roundw
                  case rel => exact ⟨i + 1, d ++ [c], e - 1, true, by go_num, rfl, by omega, by omega, hN2.out, by omega, by omega, by first | omega | (simp; omega), (hx.setOther _ _ (by simp)).setOther _ _ (by simp), by rw [HD2.out]; exact (hy.set 2 (by simp) _).set 1 (by simp) _, by (repeat' (first | (with_reducible refine Below.setCell ?_ ?_ _) | (with_reducible refine Below.alloc ?_ ?_ _) | (with_reducible refine Below.drew ?_) | (with_reducible refine below_drewN ?_ _) | (with_reducible assumption) | (with_reducible exact Below.refl _ _) | (simp only [World.size_alloc, World.size_setCell, World.size_drew]; done) | (simp only [World.size_alloc, World.size_setCell, World.size_drew]; omega) | omega))⟩
                  case measure => simp [intOf]; omega
                | false =>
                  have hN2 : Hid ((F.take (i + 1 - off)).foldl stF ([], 0, false) = (d ++ [c], e, false)) := Lib.hid hN3.out
                  clear hN3
                  go_wp2_with fail
                  (go_region; go_wp2_with fail)
                  go_roundw
                  case rel => exact ⟨i + 1, d ++ [c], e, false, by go_num, rfl, by omega, by omega, hN2.out, by omega, by omega, by first | omega | (simp; omega), hx.setOther _ _ (by simp), by rw [HD2.out]; exact hy.set 1 (by simp) _, by (repeat' (first | (with_reducible refine Below.setCell ?_ ?_ _) | (with_reducible refine Below.alloc ?_ ?_ _) | (with_reducible refine Below.drew ?_) | (with_reducible refine below_drewN ?_ _) | (with_reducible assumption) | (with_reducible exact Below.refl _ _) | (simp only [World.size_alloc, World.size_setCell, World.size_drew]; done) | (simp only [World.size_alloc, World.size_setCell, World.size_drew]; omega) | omega))⟩
                  case measure => simp [intOf]; omega
            · have hN3 : Hid ((F.take (i + 1 - off)).foldl stF ([], 0, false) = (d, if p then e - 1 else e, p)) := Lib.hid (by rw [hN.out, stF, if_neg h46, if_neg hap])
              have hap2 : d = [] ∧ c = 48 := by
                refine ⟨?_, ?_⟩
                · by_cases hd : d = []
                  · exact hd
                  · exact absurd (.inl hd) hap
                · by_cases hd : c = 48
                  · exact hd
                  · exact absurd (.inr hd) hap
              have hz : ¬ 0 < D.size := by rw [← HD.out, size_strL, hap2.1]; simp
              have d2 : (((s[i]'hil).toNat : Int) != 48) = false := by rw [Hc.out, hap2.2]; rfl
              clear hN h46 hap hap2
              cases p with
              | true =>
                have hN2 : Hid ((F.take (i + 1 - off)).foldl stF ([], 0, false) = (d, e - 1, true)) := Lib.hid hN3.out
                clear hN3
                go_wp2_with fail
                skip
                go_roundw
                case rel => exact ⟨i + 1, d, e - 1, true, by go_num, rfl, by omega, by omega, hN2.out, by omega, by omega, by first | omega | (simp; omega), hx.setOther _ _ (by simp), by rw [HD.out]; exact hy.set 2 (by simp) _, by (repeat' (first | (with_reducible refine Below.setCell ?_ ?_ _) | (with_reducible refine Below.alloc ?_ ?_ _) | (with_reducible refine Below.drew ?_) | (with_reducible refine below_drewN ?_ _) | (with_reducible assumption) | (with_reducible exact Below.refl _ _) | (simp only [World.size_alloc, World.size_setCell, World.size_drew]; done) | (simp only [World.size_alloc, World.size_setCell, World.size_drew]; omega) | omega))⟩
                case measure => simp [intOf]; omega
              | false =>
                have hN2 : Hid ((F.take (i + 1 - off)).foldl stF ([], 0, false) = (d, e, false)) := Lib.hid hN3.out
                clear hN3
                go_wp2_with fail
                skip
                go_roundw
                case rel => exact ⟨i + 1, d, e, false, by go_num, rfl, by omega, by omega, hN2.out, by omega, by omega, by first | omega | (simp; omega), hx, by rw [HD.out]; exact hy, by (repeat' (first | (with_reducible refine Below.setCell ?_ ?_ _) | (with_reducible refine Below.alloc ?_ ?_ _) | (with_reducible refine Below.drew ?_) | (with_reducible refine below_drewN ?_ _) | (with_reducible assumption) | (with_reducible exact Below.refl _ _) | (simp only [World.size_alloc, World.size_setCell, World.size_drew]; done) | (simp only [World.size_alloc, World.size_setCell, World.size_drew]; omega) | omega))⟩
                case measure => simp [intOf]; omega
        · obtain rfl : i = q := by omega
          have hfin : Hid (d = valD ip fr ∧ e = -(fr.length : Int)) := Lib.hid (by
            have h1 := hfold
            rw [show i - off = F.length by have := Hq.out; omega, List.take_length, HgF.out] at h1
            exact ⟨(congrArg (fun x => x.1) h1).symm, (congrArg (fun x => x.2.1) h1).symm⟩)
          clear hfold
          clear hlt hi2 his
          go_wp2_with fail
          clear hs2 hs3
          go_loop [5, 7, 8] (fun x5 x7 x8 => ∃ (k n : Nat) (p : Bool), x5 = .int .i64 k ∧ x7 = .int .i64 n ∧ x8 = .bool p ∧ i + 1 ≤ k ∧ k ≤ i + 1 + R.length ∧ (R.take (k - (i + 1))).foldl stP (0, false) = (n, p) ∧ n < 10000000000) (fun x5 _ _ => i + 1 + R.length - (intOf x5).toNat)
          case atStart => exact ⟨i + 1, 0, false, by go_num, rfl, rfl, Nat.le_refl _, by omega, by rw [Nat.sub_self]; rfl, by omega⟩
          case round =>
            obtain ⟨k, n, p, rfl, rfl, rfl, hk1, hk2, hfold, hnb⟩ := hrel
            have hD := fun W => rdig_any s k W (by omega)
            by_cases hks : k < s.size
            · have hkR := HRl.out k hks hk1
              obtain ⟨c, hcR⟩ : ∃ c, R[k - (i + 1)]'(by omega) = c := ⟨_, rfl⟩
              have hsk : s[k]'hks = c := by rw [HRat.out k hks hk1 (by omega), hcR]
              have hN : Hid ((R.take (k + 1 - (i + 1))).foldl stP (0, false) = stP (n, p) c) := Lib.hid (by
                rw [show k + 1 - (i + 1) = (k - (i + 1)) + 1 by omega, foldl_take stP _ R (by omega), hfold, hcR])
              have hdig : digB s k = dg c := by
                rw [digB, digs_at hks, hsk]
                cases dg c <;> simp
              rw [hdig] at hD
              clear hfold hcR hdig
              by_cases h45 : c = 45
              · have hN2 := Lib.hid (show (R.take (k + 1 - (i + 1))).foldl stP (0, false) = (n, true) by rw [hN.out, stP, h45]; simp [show dg 45 = false from rfl])
                rw [h45] at hD hsk
                have hD2 : ∀ W, Calls Tryz.prog 91 #[.string s, .int .i64 k] W fun r w' => r = .returned (.bool false) ∧ W = w' := hD
                have d1 : (((s[k]'hks).toNat : Int) == 45) = true := by rw [hsk]; rfl
                clear hN h45 hD hsk
                go_wp2_with ((with_reducible refine (hD2 _).mono ?_); rintro _ _ ⟨rfl, rfl⟩)
                go_round
                case rel => exact ⟨k + 1, n, true, by go_num, rfl, rfl, by omega, by omega, hN2.out, hnb⟩
                case measure => (simp [intOf] <;> omega)
              · have d1 : (((s[k]'hks).toNat : Int) == 45) = false := by rw [hsk]; exact u8_nb h45 rfl
                cases hdc : dg c with
                | false =>
                  have hN2 := Lib.hid (show (R.take (k + 1 - (i + 1))).foldl stP (0, false) = (n, p) by rw [hN.out, stP, hdc]; simp [h45])
                  rw [hdc] at hD
                  clear hN h45 hsk hdc
                  go_wp2_with ((with_reducible refine (hD _).mono ?_); rintro _ _ ⟨rfl, rfl⟩)
                  go_round
                  case rel => exact ⟨k + 1, n, p, by go_num, rfl, rfl, by omega, by omega, hN2.out, hnb⟩
                  case measure => simp [intOf] <;> omega
                | true =>
                  have hcb : 48 ≤ (s[k]'hks).toNat ∧ (s[k]'hks).toNat ≤ 57 := by rw [hsk]; exact dg_lt hdc
                  have hN2 := Lib.hid (show (R.take (k + 1 - (i + 1))).foldl stP (0, false) = (addQ n c, p) by rw [hN.out, stP, hdc]; simp [h45])
                  rw [hdc] at hD
                  have Hsk := Lib.hid hsk
                  clear hN h45 hdc hsk d1
                  have d1 : ¬ ((s[k]'hks).toNat : Int) = 45 := by omega
                  by_cases hn9 : n < 1000000000
                  · have hn7 : n ≤ 999999999 := by omega
                    have hA := Lib.hid (show addQ n c = n * 10 + (c.toNat - 48) by rw [addQ, if_pos hn9])
                    have HN9 := Lib.hid hn9
                    clear hnb hn9
                    go_upto_region 22 with fail
                    go_upto_if 82 with fail
                    go_upto_region 24 with fail
                    go_upto_if 89 with ((with_reducible refine (hD _).mono ?_); rintro _ _ ⟨rfl, rfl⟩)
                    rw [show decide ((n : Int) < 1000000000) = true from decide_eq_true (by omega)]
                    go_wp2
                    go_round
                    case rel => exact ⟨k + 1, addQ n c, p, by go_num, by rw [hA.out, ← Hsk.out]; congr 1; have := HN9.out; (try unfold wrap64); omega, rfl, by omega, by omega, hN2.out, by rw [hA.out, ← Hsk.out]; have := HN9.out; omega⟩
                    case measure => (simp [intOf] <;> omega)
                  · have hn7 : 1000000000 ≤ n := by omega
                    have hA := Lib.hid (show addQ n c = n by rw [addQ, if_neg hn9])
                    have HNb := Lib.hid hnb
                    clear hn9 hnb
                    go_upto_region 22 with fail
                    go_upto_if 82 with fail
                    go_upto_region 24 with fail
                    go_upto_if 89 with ((with_reducible refine (hD _).mono ?_); rintro _ _ ⟨rfl, rfl⟩)
                    rw [show decide ((n : Int) < 1000000000) = false from decide_eq_false (by omega)]
                    go_wp2
                    go_round
                    case rel => exact ⟨k + 1, addQ n c, p, by go_num, by rw [hA.out], rfl, by omega, by omega, hN2.out, by rw [hA.out]; exact HNb.out⟩
                    case measure => (simp [intOf] <;> omega)
            · have hk3 := HRe.out k hks hk1 hk2
              have hfin2 : n = pw.foldl addQ 0 ∧ p = decide (sg = [45]) := by
                have h1 := hfold
                rw [show k - (i + 1) = R.length by omega, List.take_length, HgR.out] at h1
                exact ⟨(congrArg (fun x => x.1) h1).symm, (congrArg (fun x => x.2) h1).symm⟩
              have hPw : powQ sg pw = if p then -(n : Int) else n := by
                rw [powQ, sgn, hfin2.1, hfin2.2]
                by_cases h : sg = [45] <;> simp [h]
              obtain ⟨P, hP⟩ : ∃ P, powQ sg pw = P := ⟨_, rfl⟩
              have HP := Lib.hid hP
              rw [hP] at hPw
              have HPw := Lib.hid hPw
              have hPb : -10000000000 ≤ P ∧ P ≤ 10000000000 := by rw [hPw]; split <;> omega
              clear hfold hfin2 hPw hP hk3 hD
              go_upto_if 98 with fail
              go_cut [7] (fun x wc => x = .int .i64 P ∧ wr = wc)
              case first =>
                cases p with
                | false =>
                  go_wp2
                  go_meet
                  case rel => exact ⟨by rw [HPw.out]; rfl, rfl⟩
                | true =>
                  go_wp2
                  go_meet
                  case rel => exact ⟨by rw [HPw.out]; simp, rfl⟩
              case rest =>
                obtain ⟨rfl, rfl⟩ := hcut
                rw [hfin.out.1, hfin.out.2] at hy
                clear hfin he1 he2 hdl HPw
                have hyc0 := hy.cell 0 _ rfl
                have hyf0 := hy.frozen 0
                have hyc1 := hy.cell 1 _ rfl
                have hyf1 := hy.frozen 1
                have hyc2 := hy.cell 2 _ rfl
                have hyf2 := hy.frozen 2
                go_wp2_with fail
                go_loopw [] (fun wr2 => ∃ (d : Bs) (e : Int), Lib.trimRightB d 48 = valC ip fr ∧ e + d.length = -(fr.length : Int) + P + (valD ip fr).length ∧ d.length ≤ (valD ip fr).length ∧ Cells wr2 w.heap.size #[.bool false, .string ⟨#[]⟩, .int .i64 0] 106 ∧ Cells wr2 (w.heap.size + 1) #[.bool neg, .string (strL d), .int .i64 e] 106 ∧ Below w.heap.size w wr2) (fun wr2 => match wr2.cell? ⟨w.heap.size + 1, 1, none⟩ with | some v => Lib.strSize v | none => 0)
                case atStart => exact ⟨valD ip fr, -(fr.length : Int) + P, rfl, rfl, Nat.le_refl _, hx.setOther _ _ (by simp), hy.set 2 (by simp) _, by (repeat' (first | (with_reducible refine Below.setCell ?_ ?_ _) | (with_reducible refine Below.alloc ?_ ?_ _) | (with_reducible refine Below.drew ?_) | (with_reducible refine below_drewN ?_ _) | (with_reducible assumption) | (with_reducible exact Below.refl _ _) | (simp only [World.size_alloc, World.size_setCell, World.size_drew]; done) | (simp only [World.size_alloc, World.size_setCell, World.size_drew]; omega) | omega))⟩
                case round =>
                  clear hx hy hb hyc0 hyc1 hyc2 hyf0 hyf1 hyf2
                  obtain ⟨d, e, ht, he, hdl, hx, hy, hb⟩ := hrel
                  have hds : (strL d).size = d.length := size_strL d
                  have heb : -20000000000 ≤ e ∧ e ≤ 20000000000 := by omega
                  rcases eq_nil_or_snoc d with hd0 | ⟨d', c, hd0⟩
                  · subst hd0
                    have hV := Lib.hid (show numVal neg ip fr (powQ sg pw) = ((false, [], 0), 0) by
                      rw [numVal, if_pos (show valC ip fr = [] from ht.symm)])
                    have hy : Cells wr (w.heap.size + 1) #[.bool neg, .string ⟨#[]⟩, .int .i64 e] 106 := hy
                    have hz : ((⟨#[]⟩ : ByteArray).size : Int) = 0 := rfl
                    clear ht he hdl hds
                    have hxc0 := hx.cell 0 _ rfl
                    have hxf0 := hx.frozen 0
                    have hxc1 := hx.cell 1 _ rfl
                    have hxf1 := hx.frozen 1
                    have hxc2 := hx.cell 2 _ rfl
                    have hxf2 := hx.frozen 2
                    have hyc0 := hy.cell 0 _ rfl
                    have hyf0 := hy.frozen 0
                    have hyc1 := hy.cell 1 _ rfl
                    have hyf1 := hy.frozen 1
                    have hyc2 := hy.cell 2 _ rfl
                    have hyf2 := hy.frozen 2
                    go_wp2
                    refine bodyPost_ret (v := numOut ((false, [], 0), 0)) (by simp [results, Tryz.results65, go_sem, numOut, strL, hxc0, hxc1, hxc2]) rfl ⟨by rw [hV.out], ?_⟩
                    (repeat' (first | (with_reducible refine Below.setCell ?_ ?_ _) | (with_reducible refine Below.alloc ?_ ?_ _) | (with_reducible refine Below.drew ?_) | (with_reducible refine below_drewN ?_ _) | (with_reducible assumption) | (with_reducible exact Below.refl _ _) | (simp only [World.size_alloc, World.size_setCell, World.size_drew]; done) | (simp only [World.size_alloc, World.size_setCell, World.size_drew]; omega) | omega))
                  · subst hd0
                    obtain ⟨D, hD⟩ : ∃ D, strL (d' ++ [c]) = D := ⟨_, rfl⟩
                    rw [hD] at hy hds
                    have hDm : D.size = d'.length + 1 := by rw [hds]; simp
                    have hDp : 0 < D.size := by omega
                    have hDb : D.size ≤ 1048576 := by omega
                    have hDn : D.size - 1 < D.size := by omega
                    have hDi : 0 ≤ (D.size : Int) - 1 ∧ (D.size : Int) - 1 < (D.size : Int) := by omega
                    have hDl : D[D.size - 1]'hDn = c := by
                      subst hD
                      rw [strL_at]
                      simp [size_strL]
                    by_cases h48 : c = 48
                    · have d2 : (((D[D.size - 1]'hDn).toNat : Int) == 48) = true := by rw [hDl, h48]; rfl
                      have hx2 : D.extract 0 (D.size - 1) = strL d' := by
                        rw [← hD, strL_ext, size_strL]
                        simp
                      have ht2 : Lib.trimRightB d' 48 = valC ip fr := by rw [← ht, trimR_snoc, if_pos h48]
                      have hl2 : d'.length ≤ (valD ip fr).length := by simp at hdl; omega
                      have he2 : e + 1 + d'.length = -(fr.length : Int) + P + (valD ip fr).length := by rw [← he]; simp; omega
                      have HT := Lib.hid ht2
                      have HE := Lib.hid he2
                      have hme : d'.length < D.size := by omega
                      clear ht he hdl hds hDm hDl h48 hD ht2 he2
                      obtain ⟨D2, hD2⟩ : ∃ D2, strL d' = D2 := ⟨_, rfl⟩
                      have hsz2 := Lib.hid (show D2.size = d'.length by rw [← hD2, size_strL])
                      have HD2 := Lib.hid hD2
                      rw [hD2] at hx2
                      clear hD2
                      have hyc0 := hy.cell 0 _ rfl
                      have hyf0 := hy.frozen 0
                      have hyc1 := hy.cell 1 _ rfl
                      have hyf1 := hy.frozen 1
                      have hyc2 := hy.cell 2 _ rfl
                      have hyf2 := hy.frozen 2
                      go_wp2
                      go_roundw
                      case rel => exact ⟨d', e + 1, HT.out, HE.out, hl2, (hx.setOther _ _ (by simp)).setOther _ _ (by simp), by rw [HD2.out]; exact (hy.set 1 (by simp) _).set 2 (by simp) _, by (repeat' (first | (with_reducible refine Below.setCell ?_ ?_ _) | (with_reducible refine Below.alloc ?_ ?_ _) | (with_reducible refine Below.drew ?_) | (with_reducible refine below_drewN ?_ _) | (with_reducible assumption) | (with_reducible exact Below.refl _ _) | (simp only [World.size_alloc, World.size_setCell, World.size_drew]; done) | (simp only [World.size_alloc, World.size_setCell, World.size_drew]; omega) | omega))⟩
                      case measure =>
                        have m1 := ((hy.set 1 (by simp) (.string D2)).set 2 (by simp) (.int .i64 (e + 1))).cell 1 _ rfl
                        rw [m1, hyc1]
                        show D2.size < D.size
                        rw [hsz2.out]
                        exact hme
                    · have d2 : (((D[D.size - 1]'hDn).toNat : Int) == 48) = false := by rw [hDl]; exact u8_nb h48 rfl
                      have hvc : d' ++ [c] = valC ip fr := by rw [← ht, trimR_snoc, if_neg h48]
                      have hDz : ((D.size : Int) == 0) = false := by rw [beq_eq_false_iff_ne]; omega
                      have hRr := fun W => rNumRight_any neg D e W hDb
                      have hV := Lib.hid (show numVal neg ip fr (powQ sg pw) = if numR neg D e then ((neg, valC ip fr, e), 0) else ((false, [], 0), 4) by
                        have hc0 : valC ip fr ≠ [] := by rw [← hvc]; simp
                        have hEE : valE ip fr (powQ sg pw) = e := by
                          have h1 := HP.out
                          have h2 : (valC ip fr).length ≤ (valD ip fr).length := trimR_le _
                          rw [valE, h1]
                          rw [hvc] at he
                          omega
                        rw [numVal, if_neg hc0, hEE, show (⟨(valC ip fr).toArray⟩ : ByteArray) = D by rw [← hvc]; exact hD])
                      have HC := Lib.hid (show strL (valC ip fr) = D by rw [← hvc]; exact hD)
                      clear ht he hdl hds hDm hDl h48 hD hvc
                      have hxc0 := hx.cell 0 _ rfl
                      have hxf0 := hx.frozen 0
                      have hxc1 := hx.cell 1 _ rfl
                      have hxf1 := hx.frozen 1
                      have hxc2 := hx.cell 2 _ rfl
                      have hxf2 := hx.frozen 2
                      have hyc0 := hy.cell 0 _ rfl
                      have hyf0 := hy.frozen 0
                      have hyc1 := hy.cell 1 _ rfl
                      have hyf1 := hy.frozen 1
                      have hyc2 := hy.cell 2 _ rfl
                      have hyf2 := hy.frozen 2
                      cases hr : numR neg D e with
                      | true =>
                        have hV2 := Lib.hid (show numVal neg ip fr (powQ sg pw) = ((neg, valC ip fr, e), 0) by rw [hV.out, if_pos hr])
                        rw [hr] at hRr
                        clear hV hr
                        go_wp2_with fail
                        refine (hRr _).mono ?_
                        rintro _ w2 ⟨rfl, hb2⟩
                        have hx2 := hx.below hb2 hx.lt
                        have hy2 := hy.below hb2 hy.lt
                        have hb3 := hb.trans (hb2.mono hb.size)
                        clear hb2 hxc0 hxc1 hxc2 hxf0 hxf1 hxf2 hyc0 hyc1 hyc2 hyf0 hyf1 hyf2
                        have hx2c0 := hx2.cell 0 _ rfl
                        have hx2f0 := hx2.frozen 0
                        have hx2c1 := hx2.cell 1 _ rfl
                        have hx2f1 := hx2.frozen 1
                        have hx2c2 := hx2.cell 2 _ rfl
                        have hx2f2 := hx2.frozen 2
                        have hy2c0 := hy2.cell 0 _ rfl
                        have hy2f0 := hy2.frozen 0
                        have hy2c1 := hy2.cell 1 _ rfl
                        have hy2f1 := hy2.frozen 1
                        have hy2c2 := hy2.cell 2 _ rfl
                        have hy2f2 := hy2.frozen 2
                        go_wp2
                        have hCe := HC.out
                        refine bodyPost_ret (v := numOut ((neg, valC ip fr, e), 0)) (by simp [results, Tryz.results65, go_sem, numOut, hCe, hx2c0, hx2c1, hx2c2]) rfl ⟨by rw [hV2.out], ?_⟩
                        (repeat' (first | (with_reducible refine Below.setCell ?_ ?_ _) | (with_reducible refine Below.alloc ?_ ?_ _) | (with_reducible refine Below.drew ?_) | (with_reducible refine below_drewN ?_ _) | (with_reducible assumption) | (with_reducible exact Below.refl _ _) | (simp only [World.size_alloc, World.size_setCell, World.size_drew]; done) | (simp only [World.size_alloc, World.size_setCell, World.size_drew]; omega) | omega))
                      | false =>
                        have hV2 := Lib.hid (show numVal neg ip fr (powQ sg pw) = ((false, [], 0), 4) by rw [hV.out, if_neg (by rw [hr]; decide)])
                        rw [hr] at hRr
                        clear hV hr
                        go_wp2_with fail
                        refine (hRr _).mono ?_
                        rintro _ w2 ⟨rfl, hb2⟩
                        have hx2 := hx.below hb2 hx.lt
                        have hy2 := hy.below hb2 hy.lt
                        have hb3 := hb.trans (hb2.mono hb.size)
                        clear hb2 hxc0 hxc1 hxc2 hxf0 hxf1 hxf2 hyc0 hyc1 hyc2 hyf0 hyf1 hyf2
                        have hx2c0 := hx2.cell 0 _ rfl
                        have hx2f0 := hx2.frozen 0
                        have hx2c1 := hx2.cell 1 _ rfl
                        have hx2f1 := hx2.frozen 1
                        have hx2c2 := hx2.cell 2 _ rfl
                        have hx2f2 := hx2.frozen 2
                        have hy2c0 := hy2.cell 0 _ rfl
                        have hy2f0 := hy2.frozen 0
                        have hy2c1 := hy2.cell 1 _ rfl
                        have hy2f1 := hy2.frozen 1
                        have hy2c2 := hy2.cell 2 _ rfl
                        have hy2f2 := hy2.frozen 2
                        go_wp2
                        refine bodyPost_ret (v := numOut ((false, [], 0), 4)) (by simp [results, Tryz.results65, go_sem, numOut, strL, hx2c0, hx2c1, hx2c2]) rfl ⟨by rw [hV2.out], ?_⟩
                        (repeat' (first | (with_reducible refine Below.setCell ?_ ?_ _) | (with_reducible refine Below.alloc ?_ ?_ _) | (with_reducible refine Below.drew ?_) | (with_reducible refine below_drewN ?_ _) | (with_reducible assumption) | (with_reducible exact Below.refl _ _) | (simp only [World.size_alloc, World.size_setCell, World.size_drew]; done) | (simp only [World.size_alloc, World.size_setCell, World.size_drew]; omega) | omega))
end Go.Proofs.YtjlikcfabekhlaaGreatDoor

/- The number that any text is, the reference's (layer 6), for the lexer's use. -/
namespace Go.Proofs.YtjlikcfabekhlaaGreatDoor
open Go.RowKit Go.Tab

theorem rParseD_any (s : ByteArray) (w : World) (hs : s.size ≤ 1048576) :
    Calls Tryz.prog 65 #[.string s] w fun e w' => e = .returned (numOut (decR s.data.toList)) ∧ Below w.heap.size w w' := by
  by_cases h : scanN s.data.toList = s.data.toList.length ∧ s.data.toList ≠ []
  · obtain ⟨neg, ip, fr, mk, sg, pw, hn⟩ := parts_of_scan _ h.1 h.2
    rw [hn.decR]
    have h2 := rParse_good s neg ip fr mk sg pw w hs hn
    rw [← numVal_near neg ip fr sg pw hn.dpw (by have := hn.len.1; rw [← size_list] at this; omega)] at h2
    exact h2
  · have h2 : s.data.toList = [] ∨ scanN s.data.toList ≠ s.size := by
      rw [size_list]
      by_cases h3 : s.data.toList = []
      · exact .inl h3
      · exact .inr (fun e => h ⟨e, h3⟩)
    rw [show decR s.data.toList = ((false, [], 0), 3) by unfold decR; rw [if_neg h]]
    exact rParse_bad s w hs h2
end Go.Proofs.YtjlikcfabekhlaaGreatDoor

/- The walks of the reference's smallest functions of layer 7. -/
namespace Go.Proofs.YtjlikcfabekhlaaGreatDoor
open Go.RowKit Go.Tab

theorem rhex_some (c d : Nat) (w : World) (hc : c < 256) (h : hexV c = some d) : Calls Tryz.prog 177 #[.int .u8 (c : Int)] w fun e w' => e = .returned (.int .i64 (d : Int)) ∧ w = w' := by
  unfold hexV at h
  by_cases h1 : 48 ≤ c ∧ c ≤ 57
  · rw [if_pos h1] at h
    obtain rfl : d = c - 48 := by cases h; rfl
    clear h
    go_enter Tryz.func177, Tryz.ntmps177
    go_wp2
    go_ret
    exact ⟨ret_num (by omega), rfl⟩
  rw [if_neg h1] at h
  by_cases h2 : 97 ≤ c ∧ c ≤ 102
  · rw [if_pos h2] at h
    obtain rfl : d = c - 87 := by cases h; rfl
    clear h h1
    go_enter Tryz.func177, Tryz.ntmps177
    go_wp2
    go_ret
    exact ⟨ret_num (by omega), rfl⟩
  rw [if_neg h2] at h
  by_cases h3 : 65 ≤ c ∧ c ≤ 70
  · rw [if_pos h3] at h
    obtain rfl : d = c - 55 := by cases h; rfl
    clear h h1 h2
    go_enter Tryz.func177, Tryz.ntmps177
    go_wp2
    go_ret
    exact ⟨ret_num (by omega), rfl⟩
  · rw [if_neg h3] at h; cases h
theorem rhex_none (c : Nat) (w : World) (hc : c < 256) (h : hexV c = none) : Calls Tryz.prog 177 #[.int .u8 (c : Int)] w fun e w' => e = .returned (.int .i64 (-1)) ∧ w = w' := by
  have h4 : c < 48 ∨ (58 ≤ c ∧ c ≤ 64) ∨ (71 ≤ c ∧ c ≤ 96) ∨ 103 ≤ c := by
    unfold hexV at h
    by_cases h1 : 48 ≤ c ∧ c ≤ 57
    · rw [if_pos h1] at h; cases h
    rw [if_neg h1] at h
    by_cases h2 : 97 ≤ c ∧ c ≤ 102
    · rw [if_pos h2] at h; cases h
    rw [if_neg h2] at h
    by_cases h3 : 65 ≤ c ∧ c ≤ 70
    · rw [if_pos h3] at h; cases h
    omega
  clear h
  rcases h4 with h4 | h4 | h4 | h4
  all_goals
    go_enter Tryz.func177, Tryz.ntmps177
    go_wp2
    go_ret
    exact ⟨rfl, rfl⟩

theorem ret_two {a b : Int} {q : Nat × Nat} (h1 : a = q.1) (h2 : b = q.2) : Ending.returned (.tuple #[.int .i64 a, .int .i64 b]) = .returned (.tuple #[.int .i64 (q.1 : Int), .int .i64 (q.2 : Int)]) := by rw [h1, h2]

theorem bs_fact {s : ByteArray} {k c : Nat} {r : List Nat} (h : (bs s).drop k = c :: r) : ∃ h' : k < s.size, (s[k]'h').toNat = c := by
  obtain ⟨h1, h2⟩ := bs_at h (j := 0) (by simp)
  exact ⟨h1, h2⟩

set_option maxHeartbeats 2000000 in
set_option maxRecDepth 100000 in
theorem runit_any (s : ByteArray) (k : Nat) (w : World) (hk : k ≤ s.size) (hs : s.size ≤ 1000000) :
    Calls Tryz.prog 154 #[.string s, .int .i64 (k : Int)] w fun e w' => e = .returned (.tuple #[.int .i64 ((unitQ ((bs s).drop k)).1 : Int), .int .i64 ((unitQ ((bs s).drop k)).2 : Int)]) ∧ w = w' := by
  go_enter Tryz.func154, Tryz.ntmps154
  go_wp2_with fail
  go_loop [6, 7] (fun n i => ∃ (j m : Nat), j ≤ 4 ∧ n = .int .i64 m ∧ i = .int .i64 j ∧ m < 16 ^ j ∧ k + j ≤ s.size ∧ unitF (4 - j) m ((bs s).drop (k + j)) = unitQ ((bs s).drop k)) (fun _ i => 4 - (intOf i).toNat)
  case atStart => exact ⟨0, 0, by omega, rfl, rfl, by simp, hk, rfl⟩
  case round =>
    obtain ⟨j, m, hj, rfl, rfl, hm, hkj, hu⟩ := hrel
    by_cases hj4 : j < 4
    · obtain ⟨hm1, hm2⟩ := lim4 hj4 hm
      obtain ⟨i, hi⟩ : ∃ i, 4 - j = i + 1 := ⟨3 - j, by omega⟩
      rw [hi] at hu
      cases hr : (bs s).drop (k + j) with
      | nil =>
        rw [hr, unitF] at hu
        have HU := Lib.hid hu
        have hz := drop_nil_iff hkj hr
        have hz' : s.size ≤ k + j := by omega
        clear hu hr hi hm2 hm hz
        go_wp2
        go_ret2
        exact ⟨ret_two (by rw [← HU.out]; rfl) (by rw [← HU.out]; rfl), rfl⟩
      | cons c r =>
        obtain ⟨hd1, hd2⟩ := drop_cons hr
        rw [bs_length] at hd2
        have HR := Lib.hid (show (bs s).drop (k + (j + 1)) = r from hd1)
        have hc : c < 256 := bs_lt c (List.mem_of_mem_drop (by rw [hr]; simp))
        obtain ⟨hlt, hbv⟩ := bs_fact hr
        have hbd : (0 : Int) ≤ (k : Int) + (j : Int) ∧ (k : Int) + (j : Int) < (s.size : Int) := by omega
        rw [hr] at hu
        simp only [unitF] at hu
        clear hd1
        cases hx : hexV c with
        | none =>
          rw [hx] at hu
          have HU := Lib.hid hu
          have hH := fun W => rhex_none c W hc hx
          clear hu hr hm2 hm hi hx
          go_wp2_with fail
          refine (hH _).mono ?_
          rintro e w1 ⟨rfl, rfl⟩
          go_wp2
          go_ret2
          exact ⟨ret_two (by rw [← HU.out]; rfl) (by rw [← HU.out]; rfl), rfl⟩
        | some d =>
          rw [hx] at hu
          have HU := Lib.hid hu
          have hH := fun W => rhex_some c d W hc hx
          have hd16 : d < 16 := by
            unfold hexV at hx
            repeat' (split at hx)
            all_goals first | (cases hx; omega) | cases hx
          have hx2 := Lib.hid (hm2 d hd16)
          have HI := Lib.hid hi
          clear hu hr hm2 hm hi hx
          go_wp2_with fail
          refine (hH _).mono ?_
          rintro e w1 ⟨rfl, rfl⟩
          go_wp2
          go_round
          case rel => exact ⟨j + 1, m * 16 + d, by omega, by go_num, by go_num, hx2.out, by omega, by rw [show 4 - (j + 1) = i by have := HI.out; omega, HR.out]; exact HU.out⟩
          case measure => simp [intOf]; omega
    · obtain rfl : j = 4 := by omega
      simp only [Nat.sub_self, unitF] at hu
      have HU := Lib.hid hu
      clear hu hm
      go_wp2
      go_ret2
      exact ⟨ret_two (by rw [← HU.out]) (by rw [← HU.out]; rfl), rfl⟩
end Go.Proofs.YtjlikcfabekhlaaGreatDoor
