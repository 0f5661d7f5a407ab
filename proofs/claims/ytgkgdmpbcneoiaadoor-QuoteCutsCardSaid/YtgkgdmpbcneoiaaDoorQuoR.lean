/- The walks of the laws QuoteScans and QuoteTexts (layer 7). -/
import Derived.Test.YtgkgdmpbcneoiaaDoorQuoG
import Derived.Test.YtgkgdmpbcneoiaaDoorQuoK
import Derived.Test.YtgkgdmpbcneoiaaDoorQuoQ
namespace Go.Proofs.YtgkgdmpbcneoiaaDoor
open Go.RowKit Go.Tab


theorem ex1 : parseQ (bs ⟨#[34, 97, 92, 117, 48, 48, 101, 57, 92, 117, 100, 56, 51, 100, 92, 117, 100, 101, 48, 48, 34]⟩) = ([97, 195, 169, 240, 159, 152, 128], 0) := by decide +kernel
theorem ex2 : parseQ (bs ⟨#[34, 92, 117, 100, 56, 51, 100, 34]⟩) = ([], 3) := by decide +kernel
theorem ex3 : parseQ (bs ⟨#[34, 97]⟩) = ([], 2) := by decide +kernel

set_option maxHeartbeats 1000000 in
set_option maxRecDepth 100000 in
theorem qwakes_any (w : World) (hT : Tab w) : Calls Tryd.prog 8 #[] w fun e w' => e = .returned (.bool true) ∧ Below w.heap.size w w' := by
  have h1 : ∀ W, Tab W → Calls Tryd.prog 11 #[.string ⟨#[34, 97, 92, 117, 48, 48, 101, 57, 92, 117, 100, 56, 51, 100, 92, 117, 100, 101, 48, 48, 34]⟩] W fun e w' => e = .returned (.tuple #[.string ⟨#[97, 195, 169, 240, 159, 152, 128]⟩, .int .i64 0]) ∧ Below W.heap.size W w' := fun W h => (Parse_any _ W (by decide) h).mono fun e w' ⟨h1, h2⟩ => ⟨by rw [h1, ex1]; rfl, h2⟩
  have h2 : ∀ W, Tab W → Calls Tryd.prog 11 #[.string ⟨#[34, 92, 117, 100, 56, 51, 100, 34]⟩] W fun e w' => e = .returned (.tuple #[.string ⟨#[]⟩, .int .i64 3]) ∧ Below W.heap.size W w' := fun W h => (Parse_any _ W (by decide) h).mono fun e w' ⟨h1, h2⟩ => ⟨by rw [h1, ex2]; rfl, h2⟩
  have h3 : ∀ W, Tab W → Calls Tryd.prog 11 #[.string ⟨#[34, 97]⟩] W fun e w' => e = .returned (.tuple #[.string ⟨#[]⟩, .int .i64 2]) ∧ Below W.heap.size W w' := fun W h => (Parse_any _ W (by decide) h).mono fun e w' ⟨h1, h2⟩ => ⟨by rw [h1, ex3]; rfl, h2⟩
  have hpos := hT.pos
  go_enter Tryd.func8, Tryd.ntmps8
  go_wp2_with fail
  refine (h1 _ hT).mono ?_
  rintro e w1 ⟨rfl, hb1⟩
  have hT1 := hT.below hb1 hpos
  have hz1 := hb1.size
  go_wp2_with fail
  refine (h2 _ hT1).mono ?_
  rintro e w2 ⟨rfl, hb2⟩
  have hT2 := hT1.below hb2 (by omega)
  have hz2 := hb2.size
  go_wp2_with fail
  refine (h3 _ hT2).mono ?_
  rintro e w3 ⟨rfl, hb3⟩
  go_wp2
  go_ret
  exact ⟨rfl, (hb1.trans (hb2.mono hz1)).trans (hb3.mono (by omega))⟩

set_option maxHeartbeats 2000000 in
set_option maxRecDepth 100000 in
theorem QuoteScans_walk (a0 : ByteArray) (w : World) (w0 : a0.size ≤ maxLen) (hT : Tab w) :
    Calls Tryd.prog 3 #[.string a0] w fun e w' => e = .returned (.bool true) ∧ Below w.heap.size w w' := by
  unfold maxLen at w0
  have hW := qwakes_any w hT
  have hpos := hT.pos
  by_cases h : 1000 < a0.size
  · go_enter Tryd.func3, Tryd.ntmps3
    go_wp2_with fail
    refine hW.mono ?_
    rintro e w1 ⟨rfl, hb1⟩
    go_wp2
    go_ret
    exact ⟨rfl, hb1⟩
  have h2 : a0.size ≤ 1000 := by omega
  clear h w0
  have hS := fun W h => Scan_any a0 W (by omega) h
  have hR := fun W => rScan_any a0 W (by omega)
  have hP := fun W h => Parse_any a0 W (by omega) h
  have hBy : Byt (bs a0) := bs_lt
  have hsz := fun h => scan_size hBy h
  unfold parseQ at hP
  rw [bs_length] at hP hsz
  unfold scanV at hS
  unfold partV at hR
  unfold parseV at hP
  generalize scanQ (bs a0) = q at *
  obtain ⟨o, z, e0⟩ := q
  simp only at hS hR hP hsz
  obtain ⟨S, hSS⟩ : ∃ S, S = strOf (un o) := ⟨_, rfl⟩
  rw [← hSS] at hS hR
  have HSS := Lib.hid hSS
  by_cases he : e0 = 0
  · subst he
    have hz := hsz rfl
    simp only [ne_eq, not_true_eq_false, if_false] at hP
    by_cases hzl : z < a0.size
    · rw [if_pos hzl] at hP
      change ∀ W, Tab W → Calls Tryd.prog 11 #[.string a0] W fun e w' => e = .returned (.tuple #[.string ⟨#[]⟩, .int .i64 14]) ∧ Below W.heap.size W w' at hP
      clear hsz hSS
      go_enter Tryd.func3, Tryd.ntmps3
      go_wp2_with fail
      refine hW.mono ?_
      rintro e w1 ⟨rfl, hb1⟩
      have hz1 := hb1.size
      have hT1 := hT.below hb1 hpos
      go_wp2_with fail
      refine (hS _ hT1).mono ?_
      rintro e w2 ⟨rfl, hb2⟩
      have hz2 := hb2.size
      have hT2 := hT1.below hb2 (by omega)
      go_wp2_with fail
      refine (hR _).mono ?_
      rintro e w3 ⟨rfl, hb3⟩
      have hz3 := hb3.size
      have hb13 := (hb1.trans (hb2.mono hz1)).trans (hb3.mono (by omega))
      have hT4 := hT.below (hb13.alloc (by omega) (.cells #[.string S, .int .i64 (z : Int), .int .i64 0] 27)) hpos
      have hb14 := hb13.alloc (by omega) (.cells #[.string S, .int .i64 (z : Int), .int .i64 0] 27)
      go_wp2_with fail
      refine (hP _ hT4).mono ?_
      rintro e w5 ⟨rfl, hb5⟩
      simp only [World.size_alloc] at hb5
      have hb15 := hb14.trans (hb5.mono (by omega))
      go_wp2
      go_ret
      exact ⟨rfl, hb15⟩
    · rw [if_neg hzl] at hP
      simp only [← hSS] at hP
      obtain rfl : z = a0.size := by omega
      clear hsz hSS hzl hz
      go_enter Tryd.func3, Tryd.ntmps3
      go_wp2_with fail
      refine hW.mono ?_
      rintro e w1 ⟨rfl, hb1⟩
      have hz1 := hb1.size
      have hT1 := hT.below hb1 hpos
      go_wp2_with fail
      refine (hS _ hT1).mono ?_
      rintro e w2 ⟨rfl, hb2⟩
      have hz2 := hb2.size
      have hT2 := hT1.below hb2 (by omega)
      go_wp2_with fail
      refine (hR _).mono ?_
      rintro e w3 ⟨rfl, hb3⟩
      have hz3 := hb3.size
      have hb13 := (hb1.trans (hb2.mono hz1)).trans (hb3.mono (by omega))
      have hT4 := hT.below (hb13.alloc (by omega) (.cells #[.string S, .int .i64 (a0.size : Int), .int .i64 0] 27)) hpos
      have hb14 := hb13.alloc (by omega) (.cells #[.string S, .int .i64 (a0.size : Int), .int .i64 0] 27)
      go_wp2_with fail
      refine (hP _ hT4).mono ?_
      rintro e w5 ⟨rfl, hb5⟩
      simp only [World.size_alloc] at hb5
      have hb15 := hb14.trans (hb5.mono (by omega))
      go_wp2
      go_ret
      exact ⟨rfl, hb15⟩
  · rw [if_pos he] at hP
    change ∀ W, Tab W → Calls Tryd.prog 11 #[.string a0] W fun e w' => e = .returned (.tuple #[.string ⟨#[]⟩, .int .i64 (e0 : Int)]) ∧ Below W.heap.size W w' at hP
    have hbe : ((e0 : Int) != 0) = true := by rw [bne_iff_ne]; omega
    clear hsz hSS he
    go_enter Tryd.func3, Tryd.ntmps3
    go_wp2_with fail
    refine hW.mono ?_
    rintro e w1 ⟨rfl, hb1⟩
    have hz1 := hb1.size
    have hT1 := hT.below hb1 hpos
    go_wp2_with fail
    refine (hS _ hT1).mono ?_
    rintro e w2 ⟨rfl, hb2⟩
    have hz2 := hb2.size
    have hT2 := hT1.below hb2 (by omega)
    go_wp2_with fail
    refine (hR _).mono ?_
    rintro e w3 ⟨rfl, hb3⟩
    have hz3 := hb3.size
    have hb13 := (hb1.trans (hb2.mono hz1)).trans (hb3.mono (by omega))
    have hT4 := hT.below (hb13.alloc (by omega) (.cells #[.string S, .int .i64 (z : Int), .int .i64 (e0 : Int)] 27)) hpos
    have hb14 := hb13.alloc (by omega) (.cells #[.string S, .int .i64 (z : Int), .int .i64 (e0 : Int)] 27)
    go_wp2_with fail
    refine (hP _ hT4).mono ?_
    rintro e w5 ⟨rfl, hb5⟩
    simp only [World.size_alloc] at hb5
    have hb15 := hb14.trans (hb5.mono (by omega))
    go_wp2
    go_ret
    exact ⟨rfl, hb15⟩
end Go.Proofs.YtgkgdmpbcneoiaaDoor
