/- The walk of the law QuoteApart (layer 7). -/
import Derived.Test.YtgkgdmpbcneoiaaDoorQuoU
namespace Go.Proofs.YtgkgdmpbcneoiaaDoor
open Go.RowKit Go.Tab

theorem parse_text {l : List Nat} (hl : Byt l) : Txt (parseQ l).1 ∧ (parseQ l).1.length ≤ 4 * l.length := by
  unfold parseQ
  by_cases h : (scanQ l).2.2 = 0
  · rw [if_neg (by simp [h])]
    split
    · exact ⟨Txt.nil, by simp⟩
    · have h1 := scan_out hl h
      have h2 := scan_size hl h
      exact ⟨scan_text hl h, by simp only; omega⟩
  · rw [if_pos (by simpa using h)]
    exact ⟨Txt.nil, by simp⟩
theorem print_inj {l m : List Nat} (hl : Txt l) (hm : Txt m) (h : printQ l = printQ m) : l = m := by
  have h1 := parse_print hl
  rw [h, parse_print hm] at h1
  exact (Prod.mk.inj h1).1.symm

/-- What Print hands back. -/
def prV (s : ByteArray) : ByteArray × Int := if (scan (bs s) 0).2.isNone then (strOf (un (printQ (bs s))), 0) else (⟨#[]⟩, 7)
theorem Print_any (s : ByteArray) (w : World) (hs : s.size ≤ 100000) (hT : Tab w) :
    Calls Tryd.prog 13 #[.string s] w fun e w' => e = .returned (.tuple #[.string (prV s).1, .int .i64 (prV s).2]) ∧ Below w.heap.size w w' := by
  unfold prV
  cases hv : (scan (bs s) 0).2.isNone with
  | true => exact Print_yes s w hs hT hv
  | false => exact Print_no s w hs hT hv


set_option maxHeartbeats 2000000 in
set_option maxRecDepth 100000 in
theorem QuoteApart_walk (a0 : ByteArray) (a1 : ByteArray) (w : World) (w0 : a0.size ≤ maxLen) (w1 : a1.size ≤ maxLen) (hT : Tab w) :
    Calls Tryd.prog 7 #[.string a0, .string a1] w fun e w' => e = .returned (.bool true) ∧ Below w.heap.size w w' := by
  unfold maxLen at w0 w1
  have hW := qwakes_any w hT
  have hpos := hT.pos
  by_cases h : 500 < a0.size
  · skip
    go_enter Tryd.func7, Tryd.ntmps7
    go_wp2_with fail
    refine hW.mono ?_
    rintro e w1 ⟨rfl, hb1⟩
    go_wp2
    go_ret
    exact ⟨rfl, hb1⟩
  have h2 : a0.size ≤ 500 := by omega
  clear h w0
  by_cases h : 500 < a1.size
  · skip
    go_enter Tryd.func7, Tryd.ntmps7
    go_wp2_with fail
    refine hW.mono ?_
    rintro e w1 ⟨rfl, hb1⟩
    go_wp2
    go_ret
    exact ⟨rfl, hb1⟩
  have h3 : a1.size ≤ 500 := by omega
  clear h w1
  have hP0 := fun W h => Print_any a0 W (by omega) h
  have hP1 := fun W h => Print_any a1 W (by omega) h
  have hX := fun W h => Parse_any a0 W (by omega) h
  obtain ⟨t1, t2⟩ := parse_text (l := bs a0) bs_lt
  rw [bs_length] at t2
  unfold parseV at hX
  generalize parseQ (bs a0) = q at *
  obtain ⟨o, g⟩ := q
  simp only at hX t1 t2
  obtain ⟨X, hXe⟩ : ∃ X, X = strOf (un o) := ⟨_, rfl⟩
  have hbX : bs X = o := by rw [hXe]; exact bs_un t1.1
  have hXz : X.size ≤ 2000 := by rw [← bs_length, hbX]; omega
  have hPX := fun W h => Print_yes X W (by omega) h (by rw [hbX, t1.2]; rfl)
  rw [← hXe] at hX
  rw [hbX] at hPX
  obtain ⟨C, hC⟩ : ∃ C, C = strOf (un (printQ o)) := ⟨_, rfl⟩
  have hbC : bs C = printQ o := by rw [hC]; exact bs_un (printQ_byt t1.1)
  have hCz : C.size ≤ 12002 := by rw [← bs_length, hbC]; have := printQ_len o; have := bs_length X; rw [hbX] at this; omega
  rw [← hC] at hPX
  have hXX : ∀ W, Tab W → Calls Tryd.prog 11 #[.string C] W fun e w' => e = .returned (.tuple #[.string X, .int .i64 0]) ∧ Below W.heap.size W w' := fun W h =>
    (Parse_any C W (by omega) h).mono fun e w' ⟨h1, h2⟩ => ⟨by rw [h1, hbC, parse_print t1]; unfold parseV; rw [hXe]; rfl, h2⟩
  clear hC hbC hXe hbX t1 t2
  cases hv0 : (scan (bs a0) 0).2.isNone with
  | false =>
    have e0 : prV a0 = (⟨#[]⟩, 7) := by unfold prV; rw [hv0]; rfl
    rw [e0] at hP0
    simp only at hP0
    generalize prV a1 = p1 at *
    obtain ⟨B, f⟩ := p1
    simp only at hP1
    clear hv0 e0
    by_cases hg : g = 0
    · subst hg
      go_enter Tryd.func7, Tryd.ntmps7
      go_wp2_with fail
      refine hW.mono ?_
      rintro e w1 ⟨rfl, hb1⟩
      have hz1 := hb1.size
      have hT1 := hT.below hb1 hpos
      go_wp2_with fail
      refine (hP0 _ hT1).mono ?_
      rintro e w2 ⟨rfl, hb2⟩
      have hz2 := hb2.size
      have hb12 := hb1.trans (hb2.mono hz1)
      have hT2 := hT.below hb12 hpos
      go_wp2_with fail
      refine (hP1 _ hT2).mono ?_
      rintro e w3 ⟨rfl, hb3⟩
      have hz3 := hb3.size
      have hb13 := hb12.trans (hb3.mono (by omega))
      have hT3 := hT.below hb13 hpos
      go_wp2_with fail
      refine (hX _ hT3).mono ?_
      rintro e w4 ⟨rfl, hb4⟩
      have hz4 := hb4.size
      have hb14 := hb13.trans (hb4.mono (by omega))
      have hT4 := hT.below hb14 hpos
      go_wp2_with fail
      refine (hPX _ hT4).mono ?_
      rintro e w5 ⟨rfl, hb5⟩
      have hz5 := hb5.size
      have hb15 := hb14.trans (hb5.mono (by omega))
      have hT5 := hT.below hb15 hpos
      go_wp2_with fail
      refine (hXX _ hT5).mono ?_
      rintro e w6 ⟨rfl, hb6⟩
      go_wp2
      go_ret
      exact ⟨rfl, hb15.trans (hb6.mono (by omega))⟩
    · have hbg : ((g : Int) != 0) = true := by rw [bne_iff_ne]; omega
      clear hg
      go_enter Tryd.func7, Tryd.ntmps7
      go_wp2_with fail
      refine hW.mono ?_
      rintro e w1 ⟨rfl, hb1⟩
      have hz1 := hb1.size
      have hT1 := hT.below hb1 hpos
      go_wp2_with fail
      refine (hP0 _ hT1).mono ?_
      rintro e w2 ⟨rfl, hb2⟩
      have hz2 := hb2.size
      have hb12 := hb1.trans (hb2.mono hz1)
      have hT2 := hT.below hb12 hpos
      go_wp2_with fail
      refine (hP1 _ hT2).mono ?_
      rintro e w3 ⟨rfl, hb3⟩
      have hz3 := hb3.size
      have hb13 := hb12.trans (hb3.mono (by omega))
      have hT3 := hT.below hb13 hpos
      go_wp2_with fail
      refine (hX _ hT3).mono ?_
      rintro e w4 ⟨rfl, hb4⟩
      have hz4 := hb4.size
      have hb14 := hb13.trans (hb4.mono (by omega))
      have hT4 := hT.below hb14 hpos
      go_wp2_with fail
      refine (hPX _ hT4).mono ?_
      rintro e w5 ⟨rfl, hb5⟩
      have hz5 := hb5.size
      have hb15 := hb14.trans (hb5.mono (by omega))
      have hT5 := hT.below hb15 hpos
      go_wp2_with fail
      refine (hXX _ hT5).mono ?_
      rintro e w6 ⟨rfl, hb6⟩
      go_wp2
      go_ret
      exact ⟨rfl, hb15.trans (hb6.mono (by omega))⟩
  | true =>
    have e0 : prV a0 = (strOf (un (printQ (bs a0))), 0) := by unfold prV; rw [hv0]; rfl
    cases hv1 : (scan (bs a1) 0).2.isNone with
    | false =>
      have e1 : prV a1 = (⟨#[]⟩, 7) := by unfold prV; rw [hv1]; rfl
      rw [e0] at hP0
      rw [e1] at hP1
      simp only at hP0 hP1
      obtain ⟨A, hA⟩ : ∃ A, A = strOf (un (printQ (bs a0))) := ⟨_, rfl⟩
      rw [← hA] at hP0
      clear hv0 e0 hv1 e1 hA
      by_cases hg : g = 0
      · subst hg
        go_enter Tryd.func7, Tryd.ntmps7
        go_wp2_with fail
        refine hW.mono ?_
        rintro e w1 ⟨rfl, hb1⟩
        have hz1 := hb1.size
        have hT1 := hT.below hb1 hpos
        go_wp2_with fail
        refine (hP0 _ hT1).mono ?_
        rintro e w2 ⟨rfl, hb2⟩
        have hz2 := hb2.size
        have hb12 := hb1.trans (hb2.mono hz1)
        have hT2 := hT.below hb12 hpos
        go_wp2_with fail
        refine (hP1 _ hT2).mono ?_
        rintro e w3 ⟨rfl, hb3⟩
        have hz3 := hb3.size
        have hb13 := hb12.trans (hb3.mono (by omega))
        have hT3 := hT.below hb13 hpos
        go_wp2_with fail
        refine (hX _ hT3).mono ?_
        rintro e w4 ⟨rfl, hb4⟩
        have hz4 := hb4.size
        have hb14 := hb13.trans (hb4.mono (by omega))
        have hT4 := hT.below hb14 hpos
        go_wp2_with fail
        refine (hPX _ hT4).mono ?_
        rintro e w5 ⟨rfl, hb5⟩
        have hz5 := hb5.size
        have hb15 := hb14.trans (hb5.mono (by omega))
        have hT5 := hT.below hb15 hpos
        go_wp2_with fail
        refine (hXX _ hT5).mono ?_
        rintro e w6 ⟨rfl, hb6⟩
        go_wp2
        go_ret
        exact ⟨rfl, hb15.trans (hb6.mono (by omega))⟩
      · have hbg : ((g : Int) != 0) = true := by rw [bne_iff_ne]; omega
        clear hg
        go_enter Tryd.func7, Tryd.ntmps7
        go_wp2_with fail
        refine hW.mono ?_
        rintro e w1 ⟨rfl, hb1⟩
        have hz1 := hb1.size
        have hT1 := hT.below hb1 hpos
        go_wp2_with fail
        refine (hP0 _ hT1).mono ?_
        rintro e w2 ⟨rfl, hb2⟩
        have hz2 := hb2.size
        have hb12 := hb1.trans (hb2.mono hz1)
        have hT2 := hT.below hb12 hpos
        go_wp2_with fail
        refine (hP1 _ hT2).mono ?_
        rintro e w3 ⟨rfl, hb3⟩
        have hz3 := hb3.size
        have hb13 := hb12.trans (hb3.mono (by omega))
        have hT3 := hT.below hb13 hpos
        go_wp2_with fail
        refine (hX _ hT3).mono ?_
        rintro e w4 ⟨rfl, hb4⟩
        have hz4 := hb4.size
        have hb14 := hb13.trans (hb4.mono (by omega))
        have hT4 := hT.below hb14 hpos
        go_wp2_with fail
        refine (hPX _ hT4).mono ?_
        rintro e w5 ⟨rfl, hb5⟩
        have hz5 := hb5.size
        have hb15 := hb14.trans (hb5.mono (by omega))
        have hT5 := hT.below hb15 hpos
        go_wp2_with fail
        refine (hXX _ hT5).mono ?_
        rintro e w6 ⟨rfl, hb6⟩
        go_wp2
        go_ret
        exact ⟨rfl, hb15.trans (hb6.mono (by omega))⟩
    | true =>
      have e1 : prV a1 = (strOf (un (printQ (bs a1))), 0) := by unfold prV; rw [hv1]; rfl
      rw [e0] at hP0
      rw [e1] at hP1
      simp only at hP0 hP1
      by_cases heq : a0 = a1
      · subst heq
        obtain ⟨A, hA⟩ : ∃ A, A = strOf (un (printQ (bs a0))) := ⟨_, rfl⟩
        rw [← hA] at hP0 hP1
        clear hv0 e0 hv1 e1 hA
        by_cases hg : g = 0
        · subst hg
          go_enter Tryd.func7, Tryd.ntmps7
          go_wp2_with fail
          refine hW.mono ?_
          rintro e w1 ⟨rfl, hb1⟩
          have hz1 := hb1.size
          have hT1 := hT.below hb1 hpos
          go_wp2_with fail
          refine (hP0 _ hT1).mono ?_
          rintro e w2 ⟨rfl, hb2⟩
          have hz2 := hb2.size
          have hb12 := hb1.trans (hb2.mono hz1)
          have hT2 := hT.below hb12 hpos
          go_wp2_with fail
          refine (hP1 _ hT2).mono ?_
          rintro e w3 ⟨rfl, hb3⟩
          have hz3 := hb3.size
          have hb13 := hb12.trans (hb3.mono (by omega))
          have hT3 := hT.below hb13 hpos
          go_wp2_with fail
          refine (hX _ hT3).mono ?_
          rintro e w4 ⟨rfl, hb4⟩
          have hz4 := hb4.size
          have hb14 := hb13.trans (hb4.mono (by omega))
          have hT4 := hT.below hb14 hpos
          go_wp2_with fail
          refine (hPX _ hT4).mono ?_
          rintro e w5 ⟨rfl, hb5⟩
          have hz5 := hb5.size
          have hb15 := hb14.trans (hb5.mono (by omega))
          have hT5 := hT.below hb15 hpos
          go_wp2_with fail
          refine (hXX _ hT5).mono ?_
          rintro e w6 ⟨rfl, hb6⟩
          go_wp2
          go_ret
          exact ⟨rfl, hb15.trans (hb6.mono (by omega))⟩
        · have hbg : ((g : Int) != 0) = true := by rw [bne_iff_ne]; omega
          clear hg
          go_enter Tryd.func7, Tryd.ntmps7
          go_wp2_with fail
          refine hW.mono ?_
          rintro e w1 ⟨rfl, hb1⟩
          have hz1 := hb1.size
          have hT1 := hT.below hb1 hpos
          go_wp2_with fail
          refine (hP0 _ hT1).mono ?_
          rintro e w2 ⟨rfl, hb2⟩
          have hz2 := hb2.size
          have hb12 := hb1.trans (hb2.mono hz1)
          have hT2 := hT.below hb12 hpos
          go_wp2_with fail
          refine (hP1 _ hT2).mono ?_
          rintro e w3 ⟨rfl, hb3⟩
          have hz3 := hb3.size
          have hb13 := hb12.trans (hb3.mono (by omega))
          have hT3 := hT.below hb13 hpos
          go_wp2_with fail
          refine (hX _ hT3).mono ?_
          rintro e w4 ⟨rfl, hb4⟩
          have hz4 := hb4.size
          have hb14 := hb13.trans (hb4.mono (by omega))
          have hT4 := hT.below hb14 hpos
          go_wp2_with fail
          refine (hPX _ hT4).mono ?_
          rintro e w5 ⟨rfl, hb5⟩
          have hz5 := hb5.size
          have hb15 := hb14.trans (hb5.mono (by omega))
          have hT5 := hT.below hb15 hpos
          go_wp2_with fail
          refine (hXX _ hT5).mono ?_
          rintro e w6 ⟨rfl, hb6⟩
          go_wp2
          go_ret
          exact ⟨rfl, hb15.trans (hb6.mono (by omega))⟩
      · obtain ⟨A, hA⟩ : ∃ A, A = strOf (un (printQ (bs a0))) := ⟨_, rfl⟩
        obtain ⟨B, hB⟩ : ∃ B, B = strOf (un (printQ (bs a1))) := ⟨_, rfl⟩
        have hAB : A ≠ B := fun h => by
          have h1 := congrArg bs h
          rw [hA, hB, bs_un (printQ_byt bs_lt), bs_un (printQ_byt bs_lt)] at h1
          exact heq (bs_inj (print_inj ⟨bs_lt, by simpa using hv0⟩ ⟨bs_lt, by simpa using hv1⟩ h1))
        have k1 : (A.toList == B.toList) = false := by
          cases h : (A.toList == B.toList) with
          | false => rfl
          | true => exact absurd (toList_iff.1 h) hAB
        have k2 : (a0.toList == a1.toList) = false := by
          cases h : (a0.toList == a1.toList) with
          | false => rfl
          | true => exact absurd (toList_iff.1 h) heq
        rw [← hA] at hP0
        rw [← hB] at hP1
        clear hv0 e0 hv1 e1 hA hB heq hAB
        by_cases hg : g = 0
        · subst hg
          go_enter Tryd.func7, Tryd.ntmps7
          go_wp2_with fail
          refine hW.mono ?_
          rintro e w1 ⟨rfl, hb1⟩
          have hz1 := hb1.size
          have hT1 := hT.below hb1 hpos
          go_wp2_with fail
          refine (hP0 _ hT1).mono ?_
          rintro e w2 ⟨rfl, hb2⟩
          have hz2 := hb2.size
          have hb12 := hb1.trans (hb2.mono hz1)
          have hT2 := hT.below hb12 hpos
          go_wp2_with fail
          refine (hP1 _ hT2).mono ?_
          rintro e w3 ⟨rfl, hb3⟩
          have hz3 := hb3.size
          have hb13 := hb12.trans (hb3.mono (by omega))
          have hT3 := hT.below hb13 hpos
          go_wp2_with fail
          refine (hX _ hT3).mono ?_
          rintro e w4 ⟨rfl, hb4⟩
          have hz4 := hb4.size
          have hb14 := hb13.trans (hb4.mono (by omega))
          have hT4 := hT.below hb14 hpos
          go_wp2_with fail
          refine (hPX _ hT4).mono ?_
          rintro e w5 ⟨rfl, hb5⟩
          have hz5 := hb5.size
          have hb15 := hb14.trans (hb5.mono (by omega))
          have hT5 := hT.below hb15 hpos
          go_wp2_with fail
          refine (hXX _ hT5).mono ?_
          rintro e w6 ⟨rfl, hb6⟩
          go_wp2
          go_ret
          exact ⟨rfl, hb15.trans (hb6.mono (by omega))⟩
        · have hbg : ((g : Int) != 0) = true := by rw [bne_iff_ne]; omega
          clear hg
          go_enter Tryd.func7, Tryd.ntmps7
          go_wp2_with fail
          refine hW.mono ?_
          rintro e w1 ⟨rfl, hb1⟩
          have hz1 := hb1.size
          have hT1 := hT.below hb1 hpos
          go_wp2_with fail
          refine (hP0 _ hT1).mono ?_
          rintro e w2 ⟨rfl, hb2⟩
          have hz2 := hb2.size
          have hb12 := hb1.trans (hb2.mono hz1)
          have hT2 := hT.below hb12 hpos
          go_wp2_with fail
          refine (hP1 _ hT2).mono ?_
          rintro e w3 ⟨rfl, hb3⟩
          have hz3 := hb3.size
          have hb13 := hb12.trans (hb3.mono (by omega))
          have hT3 := hT.below hb13 hpos
          go_wp2_with fail
          refine (hX _ hT3).mono ?_
          rintro e w4 ⟨rfl, hb4⟩
          have hz4 := hb4.size
          have hb14 := hb13.trans (hb4.mono (by omega))
          have hT4 := hT.below hb14 hpos
          go_wp2_with fail
          refine (hPX _ hT4).mono ?_
          rintro e w5 ⟨rfl, hb5⟩
          have hz5 := hb5.size
          have hb15 := hb14.trans (hb5.mono (by omega))
          have hT5 := hT.below hb15 hpos
          go_wp2_with fail
          refine (hXX _ hT5).mono ?_
          rintro e w6 ⟨rfl, hb6⟩
          go_wp2
          go_ret
          exact ⟨rfl, hb15.trans (hb6.mono (by omega))⟩
end Go.Proofs.YtgkgdmpbcneoiaaDoor
