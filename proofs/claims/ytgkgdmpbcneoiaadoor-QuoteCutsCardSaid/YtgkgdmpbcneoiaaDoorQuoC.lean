/- The walk of what stands behind a backslash (layer 7). -/
import Derived.Test.YtgkgdmpbcneoiaaDoorQuoB
namespace Go.Proofs.YtgkgdmpbcneoiaaDoor
open Go.RowKit Go.Tab


set_option maxHeartbeats 4000000 in
set_option maxRecDepth 100000 in
theorem escape_any (w : World) (g : Nat) (s : ByteArray) (k : Nat) (l : List UInt8) (h : RdrAt w g s (k + 1) l) (hk : k + 1 ≤ s.size) (hs : s.size ≤ 1000000) (hl : l.length ≤ 1000000) :
    Calls Tryd.prog 28 #[.pointer (some ⟨g, 0, none⟩)] w (PartP g s w (.tuple #[]) k l (escQ ((bs s).drop (k + 1)))) := by
  obtain ⟨r, hr⟩ : ∃ r, r = (bs s).drop (k + 1) := ⟨_, rfl⟩
  rw [← hr]
  cases hq : r with
  | nil =>
    have hN := fun W h => rnext_nil W g s (k + 1) l h hk (by rw [← hr]; exact hq) hs
    have HC : Hid (escQ r = errR 2) := Lib.hid (by rw [hq]; rfl)
    rw [← hq]
    have HR := Lib.hid hr
    clear hq hr
    go_enter Tryd.func28, Tryd.ntmps28
    go_wp2_with fail
    refine (hN _ h).mono ?_
    rintro e w1 ⟨rfl, hb1⟩
    go_wp2
    exact ⟨rfl, .inr ⟨by rw [HC.out]; simp [errR], by rw [HC.out]; rfl, hb1⟩⟩
  | cons c t =>
    rw [← hq]
    have hN0 : (bs s).drop (k + 1) = c :: t := by rw [← hr]; exact hq
    have hN := fun W h => rnext_cons W g s (k + 1) l h hN0 hs
    have hc : c < 256 := bs_lt c (List.mem_of_mem_drop (by rw [hN0]; simp))
    have HR := Lib.hid hr
    clear hr
    by_cases hc34 : c = 34
    · subst hc34
      have HC : Hid (escQ r = ([34], 2, 0)) := Lib.hid (by rw [hq]; rfl)
      clear hq hN0
      go_enter Tryd.func28, Tryd.ntmps28
      go_wp2_with fail
      refine (hN _ h).mono ?_
      rintro e w1 ⟨rfl, hR1, hb1, hB1⟩
      go_wp2_with fail
      refine (rWB w1 g s _ l 34 _ (by first | rfl | decide) (by omega) hR1 (by omega)).mono ?_
      rintro e w2 ⟨rfl, hR2, hb2, hB2⟩
      go_wp2
      go_end0
      exact .inl ⟨by rw [HC.out], by rw [HC.out]; exact ⟨rfl, hR2, hb1.trans hb2, hB1.trans hB2⟩⟩
    by_cases hc92 : c = 92
    · subst hc92
      have HC : Hid (escQ r = ([92], 2, 0)) := Lib.hid (by rw [hq]; rfl)
      clear hq hN0
      go_enter Tryd.func28, Tryd.ntmps28
      go_wp2_with fail
      refine (hN _ h).mono ?_
      rintro e w1 ⟨rfl, hR1, hb1, hB1⟩
      go_wp2_with fail
      refine (rWB w1 g s _ l 92 _ (by first | rfl | decide) (by omega) hR1 (by omega)).mono ?_
      rintro e w2 ⟨rfl, hR2, hb2, hB2⟩
      go_wp2
      go_end0
      exact .inl ⟨by rw [HC.out], by rw [HC.out]; exact ⟨rfl, hR2, hb1.trans hb2, hB1.trans hB2⟩⟩
    by_cases hc47 : c = 47
    · subst hc47
      have HC : Hid (escQ r = ([47], 2, 0)) := Lib.hid (by rw [hq]; rfl)
      clear hq hN0
      go_enter Tryd.func28, Tryd.ntmps28
      go_wp2_with fail
      refine (hN _ h).mono ?_
      rintro e w1 ⟨rfl, hR1, hb1, hB1⟩
      go_wp2_with fail
      refine (rWB w1 g s _ l 47 _ (by first | rfl | decide) (by omega) hR1 (by omega)).mono ?_
      rintro e w2 ⟨rfl, hR2, hb2, hB2⟩
      go_wp2
      go_end0
      exact .inl ⟨by rw [HC.out], by rw [HC.out]; exact ⟨rfl, hR2, hb1.trans hb2, hB1.trans hB2⟩⟩
    by_cases hc98 : c = 98
    · subst hc98
      have HC : Hid (escQ r = ([8], 2, 0)) := Lib.hid (by rw [hq]; rfl)
      clear hq hN0
      go_enter Tryd.func28, Tryd.ntmps28
      go_wp2_with fail
      refine (hN _ h).mono ?_
      rintro e w1 ⟨rfl, hR1, hb1, hB1⟩
      go_wp2_with fail
      refine (rWB w1 g s _ l 8 _ (by first | rfl | decide) (by omega) hR1 (by omega)).mono ?_
      rintro e w2 ⟨rfl, hR2, hb2, hB2⟩
      go_wp2
      go_end0
      exact .inl ⟨by rw [HC.out], by rw [HC.out]; exact ⟨rfl, hR2, hb1.trans hb2, hB1.trans hB2⟩⟩
    by_cases hc102 : c = 102
    · subst hc102
      have HC : Hid (escQ r = ([12], 2, 0)) := Lib.hid (by rw [hq]; rfl)
      clear hq hN0
      go_enter Tryd.func28, Tryd.ntmps28
      go_wp2_with fail
      refine (hN _ h).mono ?_
      rintro e w1 ⟨rfl, hR1, hb1, hB1⟩
      go_wp2_with fail
      refine (rWB w1 g s _ l 12 _ (by first | rfl | decide) (by omega) hR1 (by omega)).mono ?_
      rintro e w2 ⟨rfl, hR2, hb2, hB2⟩
      go_wp2
      go_end0
      exact .inl ⟨by rw [HC.out], by rw [HC.out]; exact ⟨rfl, hR2, hb1.trans hb2, hB1.trans hB2⟩⟩
    by_cases hc110 : c = 110
    · subst hc110
      have HC : Hid (escQ r = ([10], 2, 0)) := Lib.hid (by rw [hq]; rfl)
      clear hq hN0
      go_enter Tryd.func28, Tryd.ntmps28
      go_wp2_with fail
      refine (hN _ h).mono ?_
      rintro e w1 ⟨rfl, hR1, hb1, hB1⟩
      go_wp2_with fail
      refine (rWB w1 g s _ l 10 _ (by first | rfl | decide) (by omega) hR1 (by omega)).mono ?_
      rintro e w2 ⟨rfl, hR2, hb2, hB2⟩
      go_wp2
      go_end0
      exact .inl ⟨by rw [HC.out], by rw [HC.out]; exact ⟨rfl, hR2, hb1.trans hb2, hB1.trans hB2⟩⟩
    by_cases hc114 : c = 114
    · subst hc114
      have HC : Hid (escQ r = ([13], 2, 0)) := Lib.hid (by rw [hq]; rfl)
      clear hq hN0
      go_enter Tryd.func28, Tryd.ntmps28
      go_wp2_with fail
      refine (hN _ h).mono ?_
      rintro e w1 ⟨rfl, hR1, hb1, hB1⟩
      go_wp2_with fail
      refine (rWB w1 g s _ l 13 _ (by first | rfl | decide) (by omega) hR1 (by omega)).mono ?_
      rintro e w2 ⟨rfl, hR2, hb2, hB2⟩
      go_wp2
      go_end0
      exact .inl ⟨by rw [HC.out], by rw [HC.out]; exact ⟨rfl, hR2, hb1.trans hb2, hB1.trans hB2⟩⟩
    by_cases hc116 : c = 116
    · subst hc116
      have HC : Hid (escQ r = ([9], 2, 0)) := Lib.hid (by rw [hq]; rfl)
      clear hq hN0
      go_enter Tryd.func28, Tryd.ntmps28
      go_wp2_with fail
      refine (hN _ h).mono ?_
      rintro e w1 ⟨rfl, hR1, hb1, hB1⟩
      go_wp2_with fail
      refine (rWB w1 g s _ l 9 _ (by first | rfl | decide) (by omega) hR1 (by omega)).mono ?_
      rintro e w2 ⟨rfl, hR2, hb2, hB2⟩
      go_wp2
      go_end0
      exact .inl ⟨by rw [HC.out], by rw [HC.out]; exact ⟨rfl, hR2, hb1.trans hb2, hB1.trans hB2⟩⟩
    have hno : escB c = none := by
      unfold escB
      rw [if_neg (by omega), if_neg hc98, if_neg hc102, if_neg hc110, if_neg hc114, if_neg hc116]
    by_cases hc117 : c = 117
    · subst hc117
      obtain ⟨hd1, hd2⟩ := drop_cons hN0
      rw [bs_length] at hd2
      have hnum := fun W h => number_any W g s k l h (by omega) hs hl
      rw [show (bs s).drop (k + 2) = t from hd1] at hnum
      have HC : Hid (escQ r = codedQ t) := Lib.hid (by rw [hq]; rfl)
      clear hq hN0 hno hd1 hc34 hc92 hc47 hc98 hc102 hc110 hc114 hc116
      go_enter Tryd.func28, Tryd.ntmps28
      go_wp2_with fail
      refine (hN _ h).mono ?_
      rintro e w1 ⟨rfl, hR1, hb1, hB1⟩
      go_wp2_with fail
      refine (hnum _ hR1).mono ?_
      rintro e w2 (⟨h0, rfl, hR2, hb2, hB2⟩ | ⟨h0, rfl, hb2⟩)
      · have H0 := Lib.hid h0
        clear h0
        go_wp2
        go_end0
        exact .inl ⟨by rw [HC.out]; exact H0.out, by rw [HC.out]; exact ⟨rfl, hR2, hb1.trans hb2, hB1.trans hB2⟩⟩
      · have H0 := Lib.hid h0
        clear h0
        go_wp2
        exact ⟨rfl, .inr ⟨by rw [HC.out]; exact H0.out, by rw [HC.out]; exact ⟨rfl, hb1.trans hb2⟩⟩⟩
    · have HC : Hid (escQ r = errR 3) := Lib.hid (by rw [hq]; simp only [escQ, hno, if_neg hc117])
      have b1 : ((c : Int) == 34) = false := by rw [beq_eq_false_iff_ne]; omega
      have b2 : ((c : Int) == 92) = false := by rw [beq_eq_false_iff_ne]; omega
      have b3 : ((c : Int) == 47) = false := by rw [beq_eq_false_iff_ne]; omega
      have b4 : ((c : Int) == 98) = false := by rw [beq_eq_false_iff_ne]; omega
      have b5 : ((c : Int) == 102) = false := by rw [beq_eq_false_iff_ne]; omega
      have b6 : ((c : Int) == 110) = false := by rw [beq_eq_false_iff_ne]; omega
      have b7 : ((c : Int) == 114) = false := by rw [beq_eq_false_iff_ne]; omega
      have b8 : ((c : Int) == 116) = false := by rw [beq_eq_false_iff_ne]; omega
      have b9 : ((c : Int) == 117) = false := by rw [beq_eq_false_iff_ne]; omega
      clear hq hN0 hno hc34 hc92 hc47 hc98 hc102 hc110 hc114 hc116 hc117
      go_enter Tryd.func28, Tryd.ntmps28
      go_wp2_with fail
      refine (hN _ h).mono ?_
      rintro e w1 ⟨rfl, hR1, hb1, hB1⟩
      go_wp2_with fail
      refine (fail_any 3 _).mono ?_
      rintro e w2 ⟨rfl, rfl⟩
      go_wp2
      exact ⟨rfl, .inr ⟨by rw [HC.out]; simp [errR], by rw [HC.out]; rfl, hb1⟩⟩
end Go.Proofs.YtgkgdmpbcneoiaaDoor
