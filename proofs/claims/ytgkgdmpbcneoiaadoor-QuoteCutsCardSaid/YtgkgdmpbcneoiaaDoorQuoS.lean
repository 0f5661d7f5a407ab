/- The walks of the laws QuoteTexts and QuotePrints (layer 7). -/
import Derived.Test.YtgkgdmpbcneoiaaDoorQuoR
import Derived.Test.YtgkgdmpbcneoiaaDoorQuoN
namespace Go.Proofs.YtgkgdmpbcneoiaaDoor
open Go.RowKit Go.Tab

theorem strOf_bs (s : ByteArray) : strOf (un (bs s)) = s := bs_inj (bs_un bs_lt)

set_option maxHeartbeats 2000000 in
set_option maxRecDepth 100000 in
theorem QuoteTexts_walk (a0 : ByteArray) (w : World) (w0 : a0.size ≤ maxLen) (hT : Tab w) :
    Calls Tryd.prog 4 #[.string a0] w fun e w' => e = .returned (.bool true) ∧ Below w.heap.size w w' := by
  unfold maxLen at w0
  have hW := qwakes_any w hT
  have hpos := hT.pos
  by_cases h : 1000 < a0.size
  · go_enter Tryd.func4, Tryd.ntmps4
    go_wp2_with fail
    refine hW.mono ?_
    rintro e w1 ⟨rfl, hb1⟩
    go_wp2
    go_ret
    exact ⟨rfl, hb1⟩
  have h2 : a0.size ≤ 1000 := by omega
  clear h w0
  have hS := fun W h => Scan_any a0 W (by omega) h
  have hBy : Byt (bs a0) := bs_lt
  have htx := fun h => scan_text hBy h
  have her := fun h => scan_err hBy h
  have hsl : (scanQ (bs a0)).2.2 = 0 → (scanQ (bs a0)).1.length ≤ 4 * (scanQ (bs a0)).2.1 ∧ (scanQ (bs a0)).2.1 ≤ (bs a0).length := fun h => ⟨scan_out hBy h, scan_size hBy h⟩
  rw [bs_length] at hsl
  unfold scanV at hS
  generalize scanQ (bs a0) = q at *
  obtain ⟨o, z, e0⟩ := q
  simp only at hS htx her hsl
  by_cases he : e0 = 0
  · subst he
    obtain ⟨t1, t2⟩ := htx rfl
    have hl := hsl rfl
    have hV := fun W => rValid_any (strOf (un o)) W (by rw [strOf_size, un_length']; omega)
    rw [bs_un t1, t2] at hV
    clear htx her hsl t1 t2
    obtain ⟨S, hSS⟩ : ∃ S, S = strOf (un o) := ⟨_, rfl⟩
    rw [← hSS] at hS hV
    clear hSS
    go_enter Tryd.func4, Tryd.ntmps4
    go_wp2_with fail
    refine hW.mono ?_
    rintro e w1 ⟨rfl, hb1⟩
    have hz1 := hb1.size
    have hT1 := hT.below hb1 hpos
    go_wp2_with fail
    refine (hS _ hT1).mono ?_
    rintro e w2 ⟨rfl, hb2⟩
    have hz2 := hb2.size
    go_wp2_with fail
    refine (hV _).mono ?_
    rintro e w3 ⟨rfl, hb3⟩
    go_wp2
    go_ret
    exact ⟨rfl, (hb1.trans (hb2.mono hz1)).trans (hb3.mono (by omega))⟩
  · obtain ⟨ho, -⟩ := her he
    subst ho
    change ∀ W, Tab W → Calls Tryd.prog 9 #[.string a0] W fun e w' => e = .returned (.tuple #[.string ⟨#[]⟩, .int .i64 (z : Int), .int .i64 (e0 : Int)]) ∧ Below W.heap.size W w' at hS
    have hbe : ((e0 : Int) != 0) = true := by rw [bne_iff_ne]; omega
    clear htx her hsl he
    go_enter Tryd.func4, Tryd.ntmps4
    go_wp2_with fail
    refine hW.mono ?_
    rintro e w1 ⟨rfl, hb1⟩
    have hz1 := hb1.size
    have hT1 := hT.below hb1 hpos
    go_wp2_with fail
    refine (hS _ hT1).mono ?_
    rintro e w2 ⟨rfl, hb2⟩
    go_wp2
    go_ret
    exact ⟨rfl, hb1.trans (hb2.mono hz1)⟩

theorem printQ_len (l : List Nat) : (printQ l).length ≤ 6 * l.length + 2 := by
  have := flat_len l
  simp only [printQ, List.length_cons, List.length_append, List.length_nil] at this ⊢
  omega
theorem printQ_byt {l : List Nat} (h : Byt l) : Byt (printQ l) := fun x hx => by
  unfold printQ at hx
  rcases List.mem_cons.1 hx with rfl | h1
  · omega
  · rcases List.mem_append.1 h1 with h2 | h2
    · exact flat_byt h x h2
    · simp at h2; omega
theorem parse_print {l : List Nat} (h : Txt l) : parseQ (printQ l) = (l, 0) := by
  have hs := scan_print h (m := []) (fun x h => by cases h)
  rw [List.append_nil] at hs
  unfold parseQ
  rw [hs]
  simp

set_option maxHeartbeats 2000000 in
set_option maxRecDepth 100000 in
theorem QuotePrints_walk (a0 : ByteArray) (w : World) (w0 : a0.size ≤ maxLen) (hT : Tab w) :
    Calls Tryd.prog 5 #[.string a0] w fun e w' => e = .returned (.bool true) ∧ Below w.heap.size w w' := by
  unfold maxLen at w0
  have hW := qwakes_any w hT
  have hpos := hT.pos
  by_cases h : 1000 < a0.size
  · go_enter Tryd.func5, Tryd.ntmps5
    go_wp2_with fail
    refine hW.mono ?_
    rintro e w1 ⟨rfl, hb1⟩
    go_wp2
    go_ret
    exact ⟨rfl, hb1⟩
  have h2 : a0.size ≤ 1000 := by omega
  clear h w0
  have hV := fun W => rValid_any a0 W (by omega)
  cases hv : (scan (bs a0) 0).2.isNone with
  | false =>
    rw [hv] at hV
    have hP := fun W h => Print_no a0 W (by omega) h hv
    change ∀ W, Tab W → Calls Tryd.prog 13 #[.string a0] W fun e w' => e = .returned (.tuple #[.string ⟨#[]⟩, .int .i64 7]) ∧ Below W.heap.size W w' at hP
    clear hv
    go_enter Tryd.func5, Tryd.ntmps5
    go_wp2_with fail
    refine hW.mono ?_
    rintro e w1 ⟨rfl, hb1⟩
    have hz1 := hb1.size
    have hT1 := hT.below hb1 hpos
    go_wp2_with fail
    refine (hP _ hT1).mono ?_
    rintro e w2 ⟨rfl, hb2⟩
    have hz2 := hb2.size
    go_wp2_with fail
    refine (hV _).mono ?_
    rintro e w3 ⟨rfl, hb3⟩
    go_wp2
    go_ret
    exact ⟨rfl, (hb1.trans (hb2.mono hz1)).trans (hb3.mono (by omega))⟩
  | true =>
    rw [hv] at hV
    have hP := fun W h => Print_yes a0 W (by omega) h hv
    have hRP := fun W => rPrint_any a0 W (by omega)
    have htx : Txt (bs a0) := ⟨bs_lt, by simpa using hv⟩
    have hpl := printQ_len (bs a0)
    rw [bs_length] at hpl
    obtain ⟨B, hB⟩ : ∃ B, B = strOf (un (printQ (bs a0))) := ⟨_, rfl⟩
    have hbB : bs B = printQ (bs a0) := by rw [hB]; exact bs_un (printQ_byt bs_lt)
    have hBz : B.size ≤ 6002 := by rw [← bs_length, hbB]; omega
    have hPa : ∀ W, Tab W → Calls Tryd.prog 11 #[.string B] W fun e w' => e = .returned (.tuple #[.string a0, .int .i64 0]) ∧ Below W.heap.size W w' := fun W h =>
      (Parse_any B W (by omega) h).mono fun e w' ⟨h1, h2⟩ => ⟨by rw [h1, hbB, parse_print htx]; unfold parseV; rw [strOf_bs]; rfl, h2⟩
    rw [← hB] at hP hRP
    clear hv htx hpl hB hbB
    go_enter Tryd.func5, Tryd.ntmps5
    go_wp2_with fail
    refine hW.mono ?_
    rintro e w1 ⟨rfl, hb1⟩
    have hz1 := hb1.size
    have hT1 := hT.below hb1 hpos
    go_wp2_with fail
    refine (hP _ hT1).mono ?_
    rintro e w2 ⟨rfl, hb2⟩
    have hz2 := hb2.size
    have hb12 := hb1.trans (hb2.mono hz1)
    go_wp2_with fail
    refine (hV _).mono ?_
    rintro e w3 ⟨rfl, hb3⟩
    have hz3 := hb3.size
    have hb13 := hb12.trans (hb3.mono (by omega))
    have hT3 := hT.below hb13 hpos
    go_wp2_with fail
    refine (hPa _ hT3).mono ?_
    rintro e w4 ⟨rfl, hb4⟩
    have hz4 := hb4.size
    have hb14 := hb13.trans (hb4.mono (by omega))
    go_wp2_with fail
    refine (hRP _).mono ?_
    rintro e w5 ⟨rfl, hb5⟩
    go_wp2
    go_ret
    exact ⟨rfl, hb14.trans (hb5.mono (by omega))⟩
end Go.Proofs.YtgkgdmpbcneoiaaDoor
