/- The walk of the reference's Print (layer 7). -/
import Derived.Test.YtgkgdmpbcneoiaaDoorQuoM
import Derived.StillTailTactics
namespace Go.Proofs.YtgkgdmpbcneoiaaDoor
open Go.RowKit Go.Tab

theorem shortL_zero {c : Nat} (h : shortB c = 0) : shortL c = [] := by unfold shortL; rw [if_neg (by simp [h])]
theorem shortL_some {c : Nat} (h : shortB c ≠ 0) : shortL c = [shortB c] := by unfold shortL; rw [if_pos h]

set_option maxHeartbeats 4000000 in
set_option maxRecDepth 100000 in
theorem rPrint_any (s : ByteArray) (w : World) (hs : s.size ≤ 100000) :
    Calls Tryd.prog 14 #[.string s] w fun e w' => e = .returned (.string (strOf (un (printQ (bs s))))) ∧ Below w.heap.size w w' := by
  go_enter Tryd.func14, Tryd.ntmps14
  go_wp2_with fail
  go_loopw [3, 4] (fun sv i wr => ∃ (k : Nat) (S : ByteArray), k ≤ s.size ∧ i = .int .i64 (k : Int) ∧ sv = .string S ∧ S.size ≤ 6 * k + 1 ∧ Hid (S = strOf (un (preQ (bs s) k))) ∧ Below w.heap.size w wr) (fun _ i _ => s.size - (intOf i).toNat)
  case atStart => exact ⟨0, _, Nat.zero_le _, rfl, rfl, by decide, Lib.hid rfl, Below.refl _ _⟩
  case round =>
    obtain ⟨k, S, hk, rfl, rfl, hSz, HSS, hb⟩ := hrel
    by_cases hlt : k < s.size
    · have hbv := bs_at_k hlt
      have HS := Lib.hid (preQ_succ (l := bs s) (k := k) (by rw [bs_length]; exact hlt))
      have hc : (bs s)[k]'(by rw [bs_length]; exact hlt) < 256 := bs_lt _ (List.getElem_mem _)
      have hx1 : s.extract k (k + 1) = strOf (un [(bs s)[k]'(by rw [bs_length]; exact hlt)]) := by
        rw [ext_str, show k + 1 - k = 1 by omega, List.drop_eq_getElem_cons (by rw [bs_length]; exact hlt)]; rfl
      have HX := Lib.hid hx1
      clear hx1
      generalize (bs s)[k]'(by rw [bs_length]; exact hlt) = c at *
      generalize preQ (bs s) k = pre at *
      have hF := fun W => rshort_any c W
      by_cases h0 : shortB c = 0
      · have HP : Hid (prB c = if c < 32 then [92, 117, 48, 48, digB (c / 16), digB (c % 16)] else [c]) := Lib.hid (by unfold prB; rw [if_neg (by simp [h0])])
        rw [shortL_zero h0] at hF
        change ∀ W, Calls Tryd.prog 26 #[.int .u8 (c : Int)] W fun e w' => e = .returned (.string ⟨#[]⟩) ∧ W = w' at hF
        clear h0
        by_cases h32 : c < 32
        · have hD1 := fun W => rdigit_any (c / 16) W (by omega)
          have hD2 := fun W => rdigit_any (c % 16) W (by omega)
          obtain ⟨D1, hd1⟩ : ∃ D, D = strOf (un [digB (c / 16)]) := ⟨_, rfl⟩
          obtain ⟨D2, hd2⟩ : ∃ D, D = strOf (un [digB (c % 16)]) := ⟨_, rfl⟩
          rw [← hd1] at hD1
          rw [← hd2] at hD2
          have z1 : D1.size = 1 := by rw [hd1]; rfl
          have z2 : D2.size = 1 := by rw [hd2]; rfl
          simp only [Int.natCast_ediv, Int.natCast_emod, Int.cast_ofNat_Int] at hD1 hD2
          have hD1z : D1.size ≤ 1 := by omega
          have hD2z : D2.size ≤ 1 := by omega
          have HZ := Lib.hid (And.intro z1 z2)
          have HD := Lib.hid (And.intro hd1 hd2)
          clear hd1 hd2 z1 z2
          go_wp2_with fail
          refine (hF _).mono ?_
          rintro e w3 ⟨rfl, rfl⟩
          go_wp2_with fail
          refine wp_region_under wr (by kernel_rfl) (by kernel_rfl) (Below.refl _ _) ?_
          repeat (go_big_quiet_step ((go_at_call 27; first | (with_reducible exact Under.call _ (hD1 _)) | (with_reducible exact Under.call _ (hD2 _)))))
          refine wpQuiet_nil ?_
          rintro _ ⟨x, rfl⟩
          have hb7 := hb.trans (x.below.mono hb.size)
          have HS2 : Hid (S ++ ⟨#[92, 117, 48, 48]⟩ ++ D1 ++ D2 = strOf (un (preQ (bs s) (k + 1)))) := Lib.hid (by
            rw [HS.out, HP.out, if_pos h32, HD.out.1, HD.out.2, HSS.out, show (⟨#[92, 117, 48, 48]⟩ : ByteArray) = strOf (un [92, 117, 48, 48]) from rfl, un_append', un_append', un_append']
            simp)
          have hS2 : (S ++ ⟨#[92, 117, 48, 48]⟩ ++ D1 ++ D2).size ≤ 6 * (k + 1) + 1 := by
            rw [ByteArray.size_append, ByteArray.size_append, ByteArray.size_append, HZ.out.1, HZ.out.2, show (⟨#[92, 117, 48, 48]⟩ : ByteArray).size = 4 from rfl]; omega
          generalize S ++ ⟨#[92, 117, 48, 48]⟩ ++ D1 ++ D2 = S2 at *
          clear hD1 hD2
          go_wp2
          go_roundw
          case rel => exact ⟨k + 1, S2, hlt, by go_num, rfl, hS2, HS2, hb7⟩
          case measure => simp [intOf]; omega
        · have h32' : 32 ≤ c := by omega
          have HN : Hid (prB c = [c]) := Lib.hid (by rw [HP.out, if_neg h32])
          have HS2 : Hid (S ++ s.extract k (k + 1) = strOf (un (preQ (bs s) (k + 1)))) := Lib.hid (by rw [HS.out, HN.out, HX.out, HSS.out, un_append'])
          have hz1 : (s.extract k (k + 1)).size ≤ 1 := by rw [HX.out]; exact Nat.le_refl _
          have hS2 : (S ++ s.extract k (k + 1)).size ≤ 6 * (k + 1) + 1 := by rw [ByteArray.size_append]; omega
          clear h32
          go_wp2_with fail
          refine (hF _).mono ?_
          rintro e w3 ⟨rfl, rfl⟩
          go_wp2
          go_roundw
          case rel => exact ⟨k + 1, _, hlt, by go_num, rfl, hS2, HS2, hb⟩
          case measure => simp [intOf]; omega
      · have HP : Hid (prB c = [92, shortB c]) := Lib.hid (by unfold prB; rw [if_pos h0])
        rw [shortL_some h0] at hF
        obtain ⟨D, hd⟩ : ∃ D, D = strOf (un [shortB c]) := ⟨_, rfl⟩
        rw [← hd] at hF
        have HZ : Hid (D.size = 1) := Lib.hid (by rw [hd]; rfl)
        have hDz : D.size ≤ 1 := by have := HZ.out; omega
        have hne : D.toList ≠ [] := by rw [hd, strOf, ByteArray.toList_mk]; simp [un]
        have hne1 : (!D.toList.isEmpty) = true := by simpa using hne
        have HD := Lib.hid hd
        have HS2 : Hid (S ++ ⟨#[92]⟩ ++ D = strOf (un (preQ (bs s) (k + 1)))) := Lib.hid (by
          rw [HS.out, HP.out, hd, HSS.out, show (⟨#[92]⟩ : ByteArray) = strOf (un [92]) from rfl, un_append', un_append']
          simp)
        have hS2 : (S ++ ⟨#[92]⟩ ++ D).size ≤ 6 * (k + 1) + 1 := by
          rw [ByteArray.size_append, ByteArray.size_append, HZ.out, show (⟨#[92]⟩ : ByteArray).size = 1 from rfl]; omega
        clear hd h0
        go_wp2_with fail
        refine (hF _).mono ?_
        rintro e w3 ⟨rfl, rfl⟩
        go_wp2_with fail
        refine (hF _).mono ?_
        rintro e w3 ⟨rfl, rfl⟩
        go_wp2
        go_roundw
        case rel => exact ⟨k + 1, _, hlt, by go_num, rfl, hS2, HS2, hb⟩
        case measure => simp [intOf]; omega
    · have HA := Lib.hid (preQ_all (l := bs s) (k := k) (by rw [bs_length]; omega))
      go_wp2
      go_ret
      exact ⟨by rw [← HA.out, HSS.out, show (⟨#[34]⟩ : ByteArray) = strOf (un [34]) from rfl, un_append']; rfl, hb⟩
end Go.Proofs.YtgkgdmpbcneoiaaDoor
