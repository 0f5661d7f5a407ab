/- The walks of the laws QuoteCuts and QuoteApart (layer 7). -/
import Derived.Test.YtgkgdmpbcneoiaaDoorQuoS
namespace Go.Proofs.YtgkgdmpbcneoiaaDoor
open Go.RowKit Go.Tab


set_option maxHeartbeats 2000000 in
set_option maxRecDepth 100000 in
theorem QuoteCuts_walk (a0 : ByteArray) (a1 : Int) (a2 : ByteArray) (w : World) (w0 : a0.size ≤ maxLen) (w1 : (Lit.int .u16 a1).wf = true) (w2 : a2.size ≤ maxLen) (hT : Tab w) :
    Calls Tryd.prog 6 #[.string a0, .int .u16 a1, .string a2] w fun e w' => e = .returned (.bool true) ∧ Below w.heap.size w w' := by
  obtain ⟨c0, rfl, hc0⟩ : ∃ c : Nat, a1 = c ∧ c < 65536 := by
    rw [Lit.wf, Bool.and_eq_true, decide_eq_true_eq, decide_eq_true_eq] at w1
    have e1 : IntKind.u16.min = 0 := rfl
    have e2 : IntKind.u16.max = 65535 := rfl
    exact ⟨a1.toNat, by omega, by omega⟩
  unfold maxLen at w0 w2
  clear w1
  have hW := qwakes_any w hT
  have hpos := hT.pos
  by_cases h : 500 < a0.size
  · skip
    go_enter Tryd.func6, Tryd.ntmps6
    go_wp2_with fail
    refine hW.mono ?_
    rintro e w1 ⟨rfl, hb1⟩
    go_wp2
    go_ret
    exact ⟨rfl, hb1⟩
  have h2 : a0.size ≤ 500 := by omega
  clear h w0
  by_cases h : 100 < a2.size
  · skip
    go_enter Tryd.func6, Tryd.ntmps6
    go_wp2_with fail
    refine hW.mono ?_
    rintro e w1 ⟨rfl, hb1⟩
    go_wp2
    go_ret
    exact ⟨rfl, hb1⟩
  have h3 : a2.size ≤ 100 := by omega
  clear h w2
  have hV := fun W => rValid_any a0 W (by omega)
  cases hv : (scan (bs a0) 0).2.isNone with
  | false =>
    rw [hv] at hV
    clear hv
    go_enter Tryd.func6, Tryd.ntmps6
    go_wp2_with fail
    refine hW.mono ?_
    rintro e w1 ⟨rfl, hb1⟩
    have hz1 := hb1.size
    go_wp2_with fail
    refine (hV _).mono ?_
    rintro e w2 ⟨rfl, hb2⟩
    go_wp2
    go_ret
    exact ⟨rfl, hb1.trans (hb2.mono hz1)⟩
  | true =>
    rw [hv] at hV
    have hP := fun W h => Print_yes a0 W (by omega) h hv
    have htx : Txt (bs a0) := ⟨bs_lt, by simpa using hv⟩
    have hpl := printQ_len (bs a0)
    rw [bs_length] at hpl
    obtain ⟨B, hB⟩ : ∃ B, B = strOf (un (printQ (bs a0))) := ⟨_, rfl⟩
    have hbB : bs B = printQ (bs a0) := by rw [hB]; exact bs_un (printQ_byt bs_lt)
    have hBz : B.size ≤ 6002 := by rw [← bs_length, hbB]; omega
    have hBp : 0 < B.size := by rw [← bs_length, hbB]; simp [printQ]
    rw [← hB] at hP
    have hs1 := scan_print htx (m := bs a2) bs_lt
    have hbm : bs (B ++ a2) = printQ (bs a0) ++ bs a2 := by rw [← hbB]; simp [bs]
    have hS1 : ∀ W, Tab W → Calls Tryd.prog 9 #[.string (B ++ a2)] W fun e w' => e = .returned (.tuple #[.string a0, .int .i64 (B.size : Int), .int .i64 0]) ∧ Below W.heap.size W w' := fun W h =>
      (Scan_any (B ++ a2) W (by rw [ByteArray.size_append]; omega) h).mono fun e w' ⟨h1, h2⟩ => ⟨by rw [h1, hbm, hs1]; unfold scanV; rw [strOf_bs, ← hbB, bs_length]; rfl, h2⟩
    obtain ⟨j, hj⟩ : ∃ j : Nat, (c0 : Int) % (B.size : Int) = (j : Int) := ⟨((c0 : Int) % (B.size : Int)).toNat, by have := Int.emod_nonneg (c0 : Int) (show (B.size : Int) ≠ 0 by omega); omega⟩
    have hj2 : j < B.size := by have := Int.emod_lt_of_pos (c0 : Int) (show (0 : Int) < (B.size : Int) by omega); omega
    have hbx : bs (B.extract 0 j) = (printQ (bs a0)).take j := by rw [bs_extract, hbB, List.drop_zero]
    have hsh := scan_cut htx (j := j) (by rw [← hbB, bs_length]; exact hj2)
    have hS2 := fun W h => Scan_any (B.extract 0 j) W (by rw [← bs_length, hbx, List.length_take]; omega) h
    rw [hbx] at hS2
    unfold scanV at hS2
    generalize scanQ ((printQ (bs a0)).take j) = q2 at *
    obtain ⟨o2, z2, e2⟩ := q2
    simp only at hS2 hsh
    obtain ⟨S2, hS2e⟩ : ∃ S, S = strOf (un o2) := ⟨_, rfl⟩
    rw [← hS2e] at hS2
    have hne : B.toList ≠ [] := fun h => by
      rw [ByteArray.toList_eq] at h
      have : B.size = 0 := by show B.data.size = 0; rw [← Array.length_toList, h]; rfl
      omega
    have hne1 : (!B.toList.isEmpty) = true := by simpa using hne
    have hne2 : B.toList.isEmpty = false := by simpa using hne
    have hne3 : (B.toList == ([] : List UInt8)) = false := by rw [beq_eq_false_iff_ne]; exact hne
    have hBi : ((B.size : Int) == 0) = false := by rw [beq_eq_false_iff_ne]; omega
    clear hv htx hpl hB hbB hs1 hbm hbx hS2e
    rcases hsh with he2 | he2
    · skip
      have hS2 : ∀ W, Tab W → Calls Tryd.prog 9 #[.string (B.extract 0 j)] W fun e w' => e = .returned (.tuple #[.string S2, .int .i64 z2, .int .i64 2]) ∧ Below W.heap.size W w' := fun W h => (hS2 W h).mono fun e w' ⟨h1, h2⟩ => ⟨by rw [h1, he2]; rfl, h2⟩
      clear he2
      go_enter Tryd.func6, Tryd.ntmps6
      go_wp2_with fail
      refine hW.mono ?_
      rintro e w1 ⟨rfl, hb1⟩
      have hz1 := hb1.size
      go_wp2_with fail
      refine (hV _).mono ?_
      rintro e w2 ⟨rfl, hb2⟩
      have hz2 := hb2.size
      have hb12 := hb1.trans (hb2.mono hz1)
      have hT2 := hT.below hb12 hpos
      go_wp2_with fail
      refine (hP _ hT2).mono ?_
      rintro e w3 ⟨rfl, hb3⟩
      have hz3 := hb3.size
      have hb13 := hb12.trans (hb3.mono (by omega))
      have hT3 := hT.below hb13 hpos
      go_wp2_with fail
      refine (hS1 _ hT3).mono ?_
      rintro e w4 ⟨rfl, hb4⟩
      have hz4 := hb4.size
      have hb14 := hb13.trans (hb4.mono (by omega))
      have hT4 := hT.below hb14 hpos
      go_wp2_with fail
      refine (hS2 _ hT4).mono ?_
      rintro e w5 ⟨rfl, hb5⟩
      go_wp2
      go_ret
      exact ⟨rfl, hb14.trans (hb5.mono (by omega))⟩
    · skip
      have hS2 : ∀ W, Tab W → Calls Tryd.prog 9 #[.string (B.extract 0 j)] W fun e w' => e = .returned (.tuple #[.string S2, .int .i64 z2, .int .i64 7]) ∧ Below W.heap.size W w' := fun W h => (hS2 W h).mono fun e w' ⟨h1, h2⟩ => ⟨by rw [h1, he2]; rfl, h2⟩
      clear he2
      go_enter Tryd.func6, Tryd.ntmps6
      go_wp2_with fail
      refine hW.mono ?_
      rintro e w1 ⟨rfl, hb1⟩
      have hz1 := hb1.size
      go_wp2_with fail
      refine (hV _).mono ?_
      rintro e w2 ⟨rfl, hb2⟩
      have hz2 := hb2.size
      have hb12 := hb1.trans (hb2.mono hz1)
      have hT2 := hT.below hb12 hpos
      go_wp2_with fail
      refine (hP _ hT2).mono ?_
      rintro e w3 ⟨rfl, hb3⟩
      have hz3 := hb3.size
      have hb13 := hb12.trans (hb3.mono (by omega))
      have hT3 := hT.below hb13 hpos
      go_wp2_with fail
      refine (hS1 _ hT3).mono ?_
      rintro e w4 ⟨rfl, hb4⟩
      have hz4 := hb4.size
      have hb14 := hb13.trans (hb4.mono (by omega))
      have hT4 := hT.below hb14 hpos
      go_wp2_with fail
      refine (hS2 _ hT4).mono ?_
      rintro e w5 ⟨rfl, hb5⟩
      go_wp2
      go_ret
      exact ⟨rfl, hb14.trans (hb5.mono (by omega))⟩
end Go.Proofs.YtgkgdmpbcneoiaaDoor
