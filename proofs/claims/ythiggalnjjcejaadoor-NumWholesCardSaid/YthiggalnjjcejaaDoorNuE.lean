/- The walks of Digits, noughts and Print (layer 6), the reference's. -/
import Derived.Test.YthiggalnjjcejaaDoorNuK
import Derived.Test.YthiggalnjjcejaaDoorNumB
namespace Go.Proofs.YthiggalnjjcejaaDoor
set_option linter.unusedSimpArgs false
set_option linter.unusedVariables false
open Go.RowKit Go.Tab

theorem conv_one (W : World) (c : UInt8) (z : Int) (S : ByteArray) (hS : S = strL [c]) (hz : z = (c.toNat : Int)) :
    (convert 58 9 (.slice (some ⟨W.heap.size, 0, none⟩) 1 1)).run Tryd.prog (W.alloc (.cells #[.int .u8 z] 5)) = .ok (.string S) (W.alloc (.cells #[.int .u8 z] 5)) := by
  subst hS hz
  refine run_convert_bytes_back (P := Tryd.prog) _ _ _ 5 _ 1 [c] Tryd.underlying58 Tryd.underlying5 Tryd.underlying9 fun j hj => ?_
  rw [Addr.add_lit, World.cell?_alloc_new]
  have : j = 0 := by simp at hj; omega
  subst this
  rfl
theorem conv_drew (W : World) (c : UInt8) (z : Int) (S : ByteArray) (hS : S = strL [c]) (hz : z = (c.toNat : Int)) :
    (convert 58 9 (.slice (some ⟨W.heap.size, 0, none⟩) 1 1)).run Tryd.prog (W.alloc (.cells #[.int .u8 z] 5)).drew = .ok (.string S) (W.alloc (.cells #[.int .u8 z] 5)).drew := by
  subst hS hz
  refine run_convert_bytes_back (P := Tryd.prog) _ _ _ 5 _ 1 [c] Tryd.underlying58 Tryd.underlying5 Tryd.underlying9 fun j hj => ?_
  rw [Addr.add_lit, show (W.alloc (.cells #[.int .u8 (c.toNat : Int)] 5)).drew.cell? ⟨W.heap.size, 0 + j, none⟩ = (W.alloc (.cells #[.int .u8 (c.toNat : Int)] 5)).cell? ⟨W.heap.size, 0 + j, none⟩ from rfl, World.cell?_alloc_new]
  have : j = 0 := by simp at hj; omega
  subst this
  rfl
theorem conv_past {W w1 : World} {o : Obj} (c : UInt8) (z : Int) (S : ByteArray) (hS : S = strL [c]) (hz : z = (c.toNat : Int)) (ho : o = .cells #[.int .u8 z] 5) (hb : Below (W.alloc o).drew.heap.size (W.alloc o).drew w1) :
    (convert 58 9 (.slice (some ⟨W.heap.size, 0, none⟩) 1 1)).run Tryd.prog w1 = .ok (.string S) w1 := by
  subst hS hz ho
  refine run_convert_bytes_back (P := Tryd.prog) _ _ _ 5 _ 1 [c] Tryd.underlying58 Tryd.underlying5 Tryd.underlying9 fun j hj => ?_
  rw [Addr.add_lit, hb.cell (by simp), show (W.alloc (.cells #[.int .u8 (c.toNat : Int)] 5)).drew.cell? ⟨W.heap.size, 0 + j, none⟩ = (W.alloc (.cells #[.int .u8 (c.toNat : Int)] 5)).cell? ⟨W.heap.size, 0 + j, none⟩ from rfl, World.cell?_alloc_new]
  have : j = 0 := by simp at hj; omega
  subst this
  rfl

set_option maxHeartbeats 4000000 in
set_option maxRecDepth 100000 in
theorem Digits_step (n : Nat) (hn : n ≤ 1099511627776) (ih : 10 ≤ n → ∀ w, Calls Tryd.prog 18 #[.int .i64 (n / 10 : Nat)] w fun e w' => e = .returned (.string (strL (Lib.decDigits (n / 10)))) ∧ Below w.heap.size w w') (w : World) :
    Calls Tryd.prog 18 #[.int .i64 n] w fun e w' => e = .returned (.string (strL (Lib.decDigits n))) ∧ Below w.heap.size w w' := by
  by_cases h : n < 10
  · obtain ⟨S, hS⟩ : ∃ S, strL (Lib.decDigits n) = S := ⟨_, rfl⟩
    have hcv := fun W => conv_one W (UInt8.ofNat (48 + n)) (48 + (n : Int)) S (by rw [← hS, Lib.decDigits_one h]) (by rw [UInt8.toNat_ofNat']; omega)
    rw [hS]
    clear hS ih hn
    go_enter Tryd.func18, Tryd.ntmps18
    go_wp2
    go_ret
    exact ⟨rfl, by (repeat' (first | (with_reducible refine Below.setCell ?_ ?_ _) | (with_reducible refine Below.alloc ?_ ?_ _) | (with_reducible refine Below.drew ?_) | (with_reducible refine below_drewN ?_ _) | (with_reducible assumption) | (with_reducible exact Below.refl _ _) | (simp only [World.size_alloc, World.size_setCell, World.size_drew]; done) | (simp only [World.size_alloc, World.size_setCell, World.size_drew]; omega) | omega))⟩
  · obtain ⟨q, hq⟩ : ∃ q, n / 10 = q := ⟨_, rfl⟩
    obtain ⟨r, hr⟩ : ∃ r, n % 10 = r := ⟨_, rfl⟩
    have hrl : r < 10 := by omega
    obtain ⟨S, hS⟩ : ∃ S, strL [UInt8.ofNat (48 + r)] = S := ⟨_, rfl⟩
    obtain ⟨D, hD⟩ : ∃ D, strL (Lib.decDigits q) = D := ⟨_, rfl⟩
    have hz : (48 : Int) + (r : Int) = ((UInt8.ofNat (48 + r)).toNat : Int) := by rw [UInt8.toNat_ofNat']; omega
    have hcv := fun W => conv_one W (UInt8.ofNat (48 + r)) (48 + (r : Int)) S hS.symm hz
    have hcd := fun W => conv_drew W (UInt8.ofNat (48 + r)) (48 + (r : Int)) S hS.symm hz
    have hcp := fun (W w1 : World) o ho hb => conv_past (W := W) (w1 := w1) (o := o) (UInt8.ofNat (48 + r)) (48 + (r : Int)) S hS.symm hz ho hb
    have hO := Lib.hid (show strL (Lib.decDigits n) = D ++ S from str_ext (by rw [app_list, ← hD, ← hS, strL_list, strL_list, strL_list, dec_step h, hq, hr]))
    have ih := ih (by omega)
    rw [hq, hD] at ih
    have hDs : D.size ≤ 100 := by
      rw [← hD, size_strL, Lib.decDigits_length]
      have := Lib.nDigits_le20 q (by omega)
      omega
    have hSs : S.size ≤ 1 := by rw [← hS, size_strL]; exact Nat.le_refl _
    have t1 : (n : Int).tdiv 10 = (q : Int) := by rw [Int.tdiv_eq_ediv_of_nonneg (by omega)]; omega
    have t2 : (n : Int) / 10 = (q : Int) := by omega
    have t3 : (n : Int).tmod 10 = (r : Int) := by rw [Int.tmod_eq_emod_of_nonneg (by omega)]; omega
    have t4 : (n : Int) % 10 = (r : Int) := by omega
    have k0 : IntKind.i64.wrap (q : Int) = (q : Int) := IntWalk.i64_in _ (by omega)
    have k1 : IntKind.i64.wrap (48 + (r : Int)) = 48 + (r : Int) := IntWalk.i64_in _ (by omega)
    have k2 : IntKind.u8.wrap (48 + (r : Int)) = 48 + (r : Int) := by show ((48 + (r : Int)) % 256) = _; omega
    have hnn : ¬ (n : Int) < 10 := by omega
    have hsum : ¬ 9223372036854775807 < D.size + S.size := by omega
    clear hS hD h hz hq hr hn
    go_enter Tryd.func18, Tryd.ntmps18
    go_wp2_with fail
    go_region_law (first
      | (go_simp; go_at_call 18; (with_reducible refine (ih _).mono ?_); rintro _ w1 ⟨rfl, hb1⟩; (try (have hcv1 := hcp _ _ _ rfl hb1; (try rw [World.size_drew] at hcv1)))))
    all_goals
      clear hsum
      go_wp2
      go_ret
      refine ⟨by rw [hO.out]; rfl, ?_⟩
      first
        | exact ((Below.drew (Below.refl w.heap.size w)).trans hb1).alloc hb1.size _
        | exact (Below.drew ((Below.refl w.heap.size w).alloc (Nat.le_refl _) _)).trans (hb1.mono (by simp))
theorem Digits_any : ∀ (n : Nat) (hn : n ≤ 1099511627776) (w : World),
    Calls Tryd.prog 18 #[.int .i64 n] w fun e w' => e = .returned (.string (strL (Lib.decDigits n))) ∧ Below w.heap.size w w' := by
  intro n
  induction n using Nat.strongRecOn with
  | _ n ih => exact fun hn w => Digits_step n hn (fun h w => ih (n / 10) (by omega) (by omega) w) w

set_option maxHeartbeats 4000000 in
set_option maxRecDepth 100000 in
theorem noughts_any (n : Nat) (hn : n ≤ 1000000) (w : World) :
    Calls Tryd.prog 38 #[.int .i64 n] w fun e w' => e = .returned (.string (strL (zeros n))) ∧ w = w' := by
  go_enter Tryd.func38, Tryd.ntmps38
  go_wp2_with fail
  go_loop [3, 4] (fun s i => ∃ k : Nat, k ≤ n ∧ i = .int .i64 k ∧ s = .string (strL (zeros k))) (fun _ i => n - (intOf i).toNat)
  case atStart => exact ⟨0, Nat.zero_le _, rfl, rfl⟩
  case round =>
    obtain ⟨k, hk, rfl, rfl⟩ := hrel
    obtain ⟨Z, hZ⟩ : ∃ Z, strL (zeros k) = Z := ⟨_, rfl⟩
    have hZs : Z.size ≤ 1000000 := by rw [← hZ, size_strL, zeros, List.length_replicate]; omega
    rw [hZ]
    have HZ := Lib.hid hZ
    clear hZ
    by_cases hlt : k < n
    · have hN := Lib.hid (show Z ++ ⟨#[48]⟩ = strL (zeros (k + 1)) from str_ext (by rw [app_list, ← HZ.out, strL_list, strL_list, zeros, zeros, List.replicate_succ']))
      go_wp2
      go_round
      case rel => exact ⟨k + 1, by omega, by go_num, by rw [← hN.out]⟩
      case measure => simp [intOf]; omega
    · obtain rfl : k = n := by omega
      go_wp2
      go_ret
      exact ⟨by rw [HZ.out]; rfl, rfl⟩

theorem itoa_pos {e : Int} (h : 0 ≤ e) : Lib.itoa e = Lib.decDigits e.toNat := by unfold Lib.itoa; rw [if_neg (by omega)]
theorem itoa_neg' {e : Int} (h : e < 0) : Lib.itoa e = 45 :: Lib.decDigits (-e).toNat := by unfold Lib.itoa; rw [if_pos h, show e.natAbs = (-e).toNat by omega]
set_option maxHeartbeats 4000000 in
set_option maxRecDepth 100000 in
theorem rPrint_any (neg : Bool) (D : ByteArray) (e : Int) (w : World) (hd : D.size ≤ 1048576) :
    Calls Tryd.prog 17 #[.agg #[.bool neg, .string D, .int .i64 e]] w fun r w' => r = .returned (.string (strL (if numR neg D e then printN neg D.data.toList e else []))) ∧ Below w.heap.size w w' := by
  have hR := fun W => rNumRight_any neg D e W hd
  have hx0 := Cells.new w #[.bool neg, .string D, .int .i64 e] 24
  have hb0 : Below w.heap.size w (w.alloc (.cells #[.bool neg, .string D, .int .i64 e] 24)) := (Below.refl _ w).alloc (Nat.le_refl _) _
  cases hr : numR neg D e with
  | false =>
    rw [hr] at hR
    clear hr
    have hx0c0 := hx0.cell 0 _ rfl
    have hx0f0 := hx0.frozen 0
    have hx0c1 := hx0.cell 1 _ rfl
    have hx0f1 := hx0.frozen 1
    have hx0c2 := hx0.cell 2 _ rfl
    have hx0f2 := hx0.frozen 2
    go_enter Tryd.func17, Tryd.ntmps17
    go_wp2_with fail
    refine (hR _).mono ?_
    rintro _ w1 ⟨rfl, hb⟩
    go_wp2
    go_ret
    exact ⟨rfl, hb0.trans (hb.mono (by simp))⟩
  | true =>
    have HP := Lib.hid (numR_list (neg := neg) (d := D.data.toList) (e := e) (by rw [← strL_of]; exact hr))
    rw [hr] at hR
    clear hr
    by_cases h0 : D.size = 0
    · have hz : ((D.size : Int) == 0) = true := by rw [beq_iff_eq]; omega
      have hl : D.data.toList = [] := List.eq_nil_of_length_eq_zero (by rw [← size_list]; exact h0)
      have HL := Lib.hid (show printN neg D.data.toList e = [48] by rw [printN, if_pos hl])
      clear h0 hl HP
      have hx0c0 := hx0.cell 0 _ rfl
      have hx0f0 := hx0.frozen 0
      have hx0c1 := hx0.cell 1 _ rfl
      have hx0f1 := hx0.frozen 1
      have hx0c2 := hx0.cell 2 _ rfl
      have hx0f2 := hx0.frozen 2
      go_enter Tryd.func17, Tryd.ntmps17
      go_wp2_with fail
      refine (hR _).mono ?_
      rintro _ w1 ⟨rfl, hb⟩
      have hx1 := hx0.below hb hx0.lt
      have hb1 := hb0.trans (hb.mono hb0.size)
      clear hb hx0c0 hx0c1 hx0c2 hx0f0 hx0f1 hx0f2
      have hx1c0 := hx1.cell 0 _ rfl
      have hx1f0 := hx1.frozen 0
      have hx1c1 := hx1.cell 1 _ rfl
      have hx1f1 := hx1.frozen 1
      have hx1c2 := hx1.cell 2 _ rfl
      have hx1f2 := hx1.frozen 2
      go_wp2
      go_ret
      exact ⟨by rw [HL.out]; rfl, hb1⟩
    · have hRD : RightD D.data.toList e := by
        rcases HP.out with h | h
        · exact absurd (by rw [size_list, h.1]; rfl) h0
        · exact h
      have hlen := hRD.len
      rw [← size_list] at hlen
      have he1 := hRD.e1
      have he2 := hRD.e2
      have hz : ((D.size : Int) == 0) = false := by rw [beq_eq_false_iff_ne]; omega
      have HN := Lib.hid hRD.ne
      clear HP hRD h0
      have hx0c0 := hx0.cell 0 _ rfl
      have hx0f0 := hx0.frozen 0
      have hx0c1 := hx0.cell 1 _ rfl
      have hx0f1 := hx0.frozen 1
      have hx0c2 := hx0.cell 2 _ rfl
      have hx0f2 := hx0.frozen 2
      go_enter Tryd.func17, Tryd.ntmps17
      go_wp2_with fail
      refine (hR _).mono ?_
      clear hR
      rintro _ w1 ⟨rfl, hb⟩
      have hx1 := hx0.below hb hx0.lt
      have hb1 := hb0.trans (hb.mono hb0.size)
      clear hb hx0c0 hx0c1 hx0c2 hx0f0 hx0f1 hx0f2
      have hx1c0 := hx1.cell 0 _ rfl
      have hx1f0 := hx1.frozen 0
      have hx1c1 := hx1.cell 1 _ rfl
      have hx1f1 := hx1.frozen 1
      have hx1c2 := hx1.cell 2 _ rfl
      have hx1f2 := hx1.frozen 2
      go_upto_if 13 with fail
      obtain ⟨F, hF⟩ : ∃ F, strL (front neg) = F := ⟨_, rfl⟩
      go_cut [3] (fun x wc => x = .string F ∧ w1 = wc)
      case first =>
        have HF := Lib.hid hF
        clear hF
        cases neg
        · go_wp2
          go_meet
          case rel => exact ⟨by rw [← HF.out]; rfl, rfl⟩
        · go_wp2
          go_meet
          case rel => exact ⟨by rw [← HF.out]; rfl, rfl⟩
      case rest =>
        obtain ⟨rfl, rfl⟩ := hcut
        have hFs : F.size ≤ 1 := by rw [← hF, size_strL]; cases neg <;> simp [front]
        have HF := Lib.hid hF
        have X0 := fun x : Under w1 => (x.below.cell (by exact hx1.lt)).trans hx1c0
        have X1 := fun x : Under w1 => (x.below.cell (by exact hx1.lt)).trans hx1c1
        have X2 := fun x : Under w1 => (x.below.cell (by exact hx1.lt)).trans hx1c2
        clear hF
        by_cases hA : 0 ≤ e ∧ e ≤ 20
        · obtain ⟨m, rfl⟩ : ∃ m : Nat, e = m := ⟨e.toNat, by omega⟩
          have HO := Lib.hid (show printN neg D.data.toList m = front neg ++ (D.data.toList ++ zeros m) by rw [printN, if_neg HN.out, if_pos hA]; rfl)
          obtain ⟨Z, hZ⟩ : ∃ Z, strL (zeros m) = Z := ⟨_, rfl⟩
          have hZs : Z.size ≤ 20 := by rw [← hZ, size_strL, zeros, List.length_replicate]; omega
          have hcall : ∀ x : Under w1, Calls Tryd.prog 38 #[.int .i64 m] x.w fun e w' => e = .returned (.string Z) ∧ ∃ y : Under w1, w' = y.w := fun x => (noughts_any m (by omega) x.w).mono fun e w' h => ⟨by rw [← hZ]; exact h.1, x, h.2.symm⟩
          have HZ := Lib.hid hZ
          clear hZ
          go_wp2_with fail
          refine wp_region_under w1 (by kernel_rfl) (by kernel_rfl) (Below.refl _ _) ?_
          repeat (go_big_quiet_step ((first | (with_reducible exact hcall _))))
          refine wpQuiet_nil ?_
          rintro _ ⟨x, rfl⟩
          go_wp2
          go_ret
          refine ⟨?_, hb1.trans (x.below.mono hb1.size)⟩
          show Ending.returned (.string (F ++ D ++ Z)) = _
          congr 2
          exact str_ext (by simp only [app_list]; rw [HO.out, ← HF.out, ← HZ.out]; simp [strL_list])
        · by_cases hB : 20 < e
          · obtain ⟨m, rfl⟩ : ∃ m : Nat, e = m := ⟨e.toNat, by omega⟩
            have HO := Lib.hid (show printN neg D.data.toList m = front neg ++ (D.data.toList ++ 101 :: Lib.decDigits m) by rw [printN, if_neg HN.out, if_neg hA, if_pos (.inr hB), itoa_pos (by omega), Int.toNat_natCast])
            obtain ⟨Z, hZ⟩ : ∃ Z, strL (Lib.decDigits m) = Z := ⟨_, rfl⟩
            have hZs : Z.size ≤ 21 := by rw [← hZ, size_strL, Lib.decDigits_length]; have := Lib.nDigits_le20 m (by omega); omega
            have hcall : ∀ x : Under w1, Calls Tryd.prog 18 #[.int .i64 m] x.w fun r w' => r = .returned (.string Z) ∧ ∃ y : Under w1, w' = y.w := fun x => x.call (by rw [← hZ]; exact Digits_any m (by omega) x.w)
            have HZ := Lib.hid hZ
            clear hZ hA
            go_wp2_with fail
            refine wp_region_under w1 (by kernel_rfl) (by kernel_rfl) (Below.refl _ _) ?_
            repeat (go_big_quiet_step ((first | (with_reducible exact hcall _))))
            refine wpQuiet_nil ?_
            rintro _ ⟨x, rfl⟩
            go_wp2
            go_ret
            refine ⟨?_, hb1.trans (x.below.mono hb1.size)⟩
            show Ending.returned (.string (F ++ D ++ ⟨#[101]⟩ ++ Z)) = _
            congr 2
            exact str_ext (by simp only [app_list]; rw [HO.out, ← HF.out, ← HZ.out]; simp [strL_list])
          · obtain ⟨m, rfl⟩ : ∃ m : Nat, e = -(m : Int) := ⟨(-e).toNat, by omega⟩
            have hm : 1 ≤ m := by omega
            have k2 : IntKind.i64.wrap (0 - -(m : Int)) = (m : Int) := by rw [IntWalk.i64_in _ (by omega)]; omega
            have k1 : IntKind.i64.wrap (m : Int) = (m : Int) := IntWalk.i64_in _ (by omega)
            have d1 : ¬ (0 ≤ -(m : Int)) := by omega
            have d3 : ¬ (20 < -(m : Int)) := by omega
            by_cases hB2 : -(m : Int) < -20
            · have HO := Lib.hid (show printN neg D.data.toList (-(m : Int)) = front neg ++ (D.data.toList ++ 101 :: 45 :: Lib.decDigits m) by rw [printN, if_neg HN.out, if_neg hA, if_pos (.inl hB2), itoa_neg' (by omega), show (- -(m : Int)).toNat = m by omega])
              obtain ⟨Z, hZ⟩ : ∃ Z, strL (Lib.decDigits m) = Z := ⟨_, rfl⟩
              have hZs : Z.size ≤ 21 := by rw [← hZ, size_strL, Lib.decDigits_length]; have := Lib.nDigits_le20 m (by omega); omega
              have hcall : ∀ x : Under w1, Calls Tryd.prog 18 #[.int .i64 m] x.w fun r w' => r = .returned (.string Z) ∧ ∃ y : Under w1, w' = y.w := fun x => x.call (by rw [← hZ]; exact Digits_any m (by omega) x.w)
              have HZ := Lib.hid hZ
              clear hZ hA
              go_wp2_with fail
              refine wp_region_under w1 (by kernel_rfl) (by kernel_rfl) (Below.refl _ _) ?_
              repeat (go_big_quiet_step ((first | (with_reducible exact hcall _))))
              refine wpQuiet_nil ?_
              rintro _ ⟨x, rfl⟩
              clear k1 k2
              go_wp2
              go_ret
              refine ⟨?_, hb1.trans (x.below.mono hb1.size)⟩
              show Ending.returned (.string (F ++ D ++ ⟨#[101, 45]⟩ ++ Z)) = _
              congr 2
              exact str_ext (by simp only [app_list]; rw [HO.out, ← HF.out, ← HZ.out]; simp [strL_list])
            · have hm2 : m ≤ 20 := by omega
              by_cases hC : m < D.size
              · have HO := Lib.hid (show printN neg D.data.toList (-(m : Int)) = front neg ++ (D.data.toList.take (D.size - m) ++ 46 :: D.data.toList.drop (D.size - m)) by
                  rw [printN, if_neg HN.out, if_neg hA, if_neg (by omega), if_pos (by rw [← size_list]; omega), ← size_list, show (- -(m : Int)).toNat = m by omega])
                obtain ⟨j, hj⟩ : ∃ j, D.size - m = j := ⟨_, rfl⟩
                rw [hj] at HO
                have hjj : IntKind.i64.wrap ((D.size : Int) + -(m : Int)) = (j : Int) := by rw [IntWalk.i64_in _ (by omega)]; omega
                have hj1 : j ≤ D.size := by omega
                have hjb : 0 ≤ (j : Int) ∧ (j : Int) ≤ (D.size : Int) := by omega
                obtain ⟨D1, hD1⟩ : ∃ D1, D.extract 0 j = D1 := ⟨_, rfl⟩
                obtain ⟨D2, hD2⟩ : ∃ D2, D.extract j D.size = D2 := ⟨_, rfl⟩
                have hs1 : D1.size ≤ 1000 := by rw [← hD1, ByteArray.size_extract]; omega
                have hs2 : D2.size ≤ 1000 := by rw [← hD2, ByteArray.size_extract]; omega
                have hmm : (m : Int) < (D.size : Int) := by omega
                have HD1 := Lib.hid hD1
                have HD2 := Lib.hid hD2
                clear hA hB hj
                go_wp2_with fail
                go_quiet (fail)
                clear hjj hjb k1 k2
                go_wp2
                go_ret
                refine ⟨?_, below_drewN hb1 _⟩
                show Ending.returned (.string (F ++ D1 ++ ⟨#[46]⟩ ++ D2)) = _
                congr 2
                exact str_ext (by rw [app_list, app_list, app_list, HO.out, ← HF.out, ← HD1.out, ← HD2.out, ext_list, ext_list, size_list, List.take_length]; simp [strL_list])
              · have HO := Lib.hid (show printN neg D.data.toList (-(m : Int)) = front neg ++ ([48, 46] ++ (zeros (m - D.size) ++ D.data.toList)) by
                  rw [printN, if_neg HN.out, if_neg hA, if_neg (by omega), if_neg (by rw [← size_list]; omega), ← size_list, show (- -(m : Int)).toNat = m by omega])
                obtain ⟨j, hj⟩ : ∃ j, m - D.size = j := ⟨_, rfl⟩
                rw [hj] at HO
                have hj1 : j ≤ 20 := by omega
                have k3 : IntKind.i64.wrap ((m : Int) - (D.size : Int)) = (j : Int) := by rw [IntWalk.i64_in _ (by omega)]; omega
                obtain ⟨Z, hZ⟩ : ∃ Z, strL (zeros j) = Z := ⟨_, rfl⟩
                have hZs : Z.size ≤ 20 := by rw [← hZ, size_strL, zeros, List.length_replicate]; omega
                have hcall : ∀ x : Under w1, Calls Tryd.prog 38 #[.int .i64 j] x.w fun e w' => e = .returned (.string Z) ∧ ∃ y : Under w1, w' = y.w := fun x => (noughts_any j (by omega) x.w).mono fun e w' h => ⟨by rw [← hZ]; exact h.1, x, h.2.symm⟩
                have HZ := Lib.hid hZ
                have hmm : ¬ (m : Int) < (D.size : Int) := by omega
                clear hA hB hj hZ
                go_wp2_with fail
                refine wp_region_under w1 (by kernel_rfl) (by kernel_rfl) (Below.refl _ _) ?_
                repeat (go_big_quiet_step ((first | (with_reducible exact hcall _))))
                refine wpQuiet_nil ?_
                rintro _ ⟨x, rfl⟩
                clear k1 k2 k3
                go_wp2
                go_ret
                refine ⟨?_, hb1.trans (x.below.mono hb1.size)⟩
                show Ending.returned (.string (F ++ ⟨#[48, 46]⟩ ++ Z ++ D)) = _
                congr 2
                exact str_ext (by simp only [app_list]; rw [HO.out, ← HF.out, ← HZ.out]; simp [strL_list])
end Go.Proofs.YthiggalnjjcejaaDoor
