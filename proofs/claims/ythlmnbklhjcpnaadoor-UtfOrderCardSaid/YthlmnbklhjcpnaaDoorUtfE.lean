/- The walks of layer 2's example and of UtfJoins: it returns true. -/
import Derived.Test.YthlmnbklhjcpnaaDoorUtfD
namespace Go.Proofs.YthlmnbklhjcpnaaDoor
open Go.RowKit Go.Tab

theorem bs_append (a b : ByteArray) : bs (a ++ b) = bs a ++ bs b := by simp [bs]
theorem size_append (a b : ByteArray) : (a ++ b).size = a.size + b.size := by rw [← bs_length, bs_append, List.length_append, bs_length, bs_length]
theorem put_ex : strOf (putU 8364) = ⟨#[226, 130, 172]⟩ := by
  have : putU 8364 = [226, 130, 172] := by decide +kernel
  rw [this]; rfl
theorem bad_ex1 : badV (scan (bs ⟨#[192, 128]⟩) 0).2 = 0 := by
  have : bs ⟨#[192, 128]⟩ = [192, 128] := rfl
  rw [this, scan_bad (by simp) (by decide +kernel)]; rfl
theorem bad_ex2 : badV (scan (bs ⟨#[237, 160, 128]⟩) 0).2 = 0 := by
  have : bs ⟨#[237, 160, 128]⟩ = [237, 160, 128] := rfl
  rw [this, scan_bad (by simp) (by decide +kernel)]; rfl
theorem bad_ex3 : badV (scan (bs ⟨#[244, 144, 128, 128]⟩) 0).2 = 0 := by
  have : bs ⟨#[244, 144, 128, 128]⟩ = [244, 144, 128, 128] := rfl
  rw [this, scan_bad (by simp) (by decide +kernel)]; rfl

set_option maxHeartbeats 800000 in
set_option maxRecDepth 100000 in
theorem uwakes_any (w : World) (hT : Tab w) : Calls Tryd.prog 8 #[] w fun e w' => e = .returned (.bool true) ∧ Below w.heap.size w w' := by
  have p0 := Lib.hid put_ex
  have p1 := Lib.hid bad_ex1
  have p2 := Lib.hid bad_ex2
  have p3 := Lib.hid bad_ex3
  go_enter Tryd.func8, Tryd.ntmps8
  go_wp2_with fail
  refine (Put_any 8364 w (by decide)).mono ?_
  rintro e w1 ⟨rfl, hb1⟩
  rw [p0.out]
  have hT1 := hT.below hb1 hT.pos
  go_wp2_with fail
  refine (Bad_any _ w1 hT1 (by decide)).mono ?_
  rintro e w2 ⟨rfl, rfl⟩
  rw [p1.out]
  go_wp2_with fail
  refine (Bad_any _ w1 hT1 (by decide)).mono ?_
  rintro e w2 ⟨rfl, rfl⟩
  rw [p2.out]
  go_wp2_with fail
  refine (Bad_any _ w1 hT1 (by decide)).mono ?_
  rintro e w2 ⟨rfl, rfl⟩
  rw [p3.out]
  go_wp2
  go_ret
  exact ⟨rfl, hb1⟩

set_option maxHeartbeats 3000000 in
set_option maxRecDepth 100000 in
theorem UtfJoins_walk (a0 : ByteArray) (a1 : ByteArray) (w : World) (w0 : a0.size ≤ maxLen) (w1 : a1.size ≤ maxLen) (hT : Tab w) :
    Calls Tryd.prog 7 #[.string a0, .string a1] w fun e w' => e = .returned (.bool true) ∧ Below w.heap.size w w' := by
  have hwk := uwakes_any w hT
  by_cases h0 : 500 < a0.size
  · go_enter Tryd.func7, Tryd.ntmps7
    go_wp2_with fail
    refine hwk.mono ?_
    rintro e w1 ⟨rfl, hb1⟩
    go_wp2
    go_ret
    exact ⟨rfl, hb1⟩
  by_cases h1 : 500 < a1.size
  · have h2 : a0.size ≤ 500 := by omega
    go_enter Tryd.func7, Tryd.ntmps7
    go_wp2_with fail
    refine hwk.mono ?_
    rintro e w1 ⟨rfl, hb1⟩
    go_wp2
    go_ret
    exact ⟨rfl, hb1⟩
  have h2 : a0.size ≤ 500 := by omega
  have h3 : a1.size ≤ 500 := by omega
  clear w0 w1 h0 h1
  cases hv : (scan (bs a0) 0).2 with
  | some k =>
    have HV := Lib.hid hv
    clear hv
    go_enter Tryd.func7, Tryd.ntmps7
    go_wp2_with fail
    refine hwk.mono ?_
    rintro e w1 ⟨rfl, hb1⟩
    go_wp2_with fail
    refine (Valid_any a0 w1 (hT.below hb1 hT.pos) (by omega)).mono ?_
    rintro e w2 ⟨rfl, rfl⟩
    rw [HV.out]
    go_wp2
    go_ret
    exact ⟨rfl, hb1⟩
  | none =>
    have hab := scan_append (bs a0).length (bs a0) (bs a1) 0 (Nat.le_refl _) bs_lt hv
    have hsh := scan_shift (bs a1).length (bs a1) 0 (bs a0).length (Nat.le_refl _)
    rw [hsh, ← bs_append, bs_length] at hab
    have hsz := size_append a0 a1
    have hl0 := scan_len (bs a0).length (bs a0) 0 (Nat.le_refl _)
    have hl1 := scan_len (bs a1).length (bs a1) 0 (Nat.le_refl _)
    rw [bs_length] at hl0 hl1
    have HV := Lib.hid hv
    have HAB := Lib.hid hab
    have HS := Lib.hid (show (a0 ++ a1).size ≤ 1000000 by omega)
    clear hv hab hsh hsz
    go_enter Tryd.func7, Tryd.ntmps7
    go_wp2_with fail
    refine hwk.mono ?_
    rintro e w1 ⟨rfl, hb1⟩
    have hT1 := hT.below hb1 hT.pos
    go_wp2_with fail
    refine (Valid_any a0 w1 hT1 (by omega)).mono ?_
    rintro e w2 ⟨rfl, rfl⟩
    rw [HV.out]
    go_wp2_with fail
    refine (Count_any a0 w1 hT1 (by omega)).mono ?_
    rintro e w2 ⟨rfl, rfl⟩
    rw [HV.out]
    go_wp2_with fail
    refine (Count_any a1 w1 hT1 (by omega)).mono ?_
    rintro e w2 ⟨rfl, rfl⟩
    go_wp2_with fail
    refine (Count_any (a0 ++ a1) w1 hT1 HS.out).mono ?_
    rintro e w2 ⟨rfl, rfl⟩
    have hca : countV (scan (bs a0) 0) = (scan (bs a0) 0).1.length := by simp [countV, HV.out]
    have hcab : countV (scan (bs (a0 ++ a1)) 0) = if (scan (bs a1) 0).2.isNone then (scan (bs a0) 0).1.length + (scan (bs a1) 0).1.length else 0 := by
      rw [HAB.out]; unfold countV; cases (scan (bs a1) 0).2 <;> simp
    have hnab : (scan (bs (a0 ++ a1)) 0).2.isNone = (scan (bs a1) 0).2.isNone := by
      rw [HAB.out]; cases (scan (bs a1) 0).2 <;> rfl
    cases hb : (scan (bs a1) 0).2 with
    | some k =>
      have hbad : badV (scan (bs (a0 ++ a1)) 0).2 = (a0.size : Int) + badV (scan (bs a1) 0).2 := by
        rw [HAB.out, hb]; simp [badV]; omega
      have hcb : countV (scan (bs a1) 0) = 0 := by simp [countV, hb]
      rw [hb] at hcab hnab
      rw [hcab, hnab, hcb, hca]
      have HB := Lib.hid hbad
      have HBB := Lib.hid hb
      clear hca hcab hnab hbad hcb hb
      go_wp2_with fail
      refine (Bad_any (a0 ++ a1) w1 hT1 HS.out).mono ?_
      rintro e w2 ⟨rfl, rfl⟩
      rw [HB.out, HBB.out]
      go_wp2_with fail
      refine (Bad_any a1 w1 hT1 (by omega)).mono ?_
      rintro e w2 ⟨rfl, rfl⟩
      rw [HBB.out]
      rw [show badV (some k) = (k : Int) from rfl]
      have hk := scan_lt (bs a1).length (bs a1) 0 k (Nat.le_refl _) bs_lt HBB.out
      rw [bs_length] at hk
      have hk2 : k < 500 := by omega
      clear hk
      go_wp2
      go_ret
      exact ⟨rfl, hb1⟩
    | none =>
      have hcb : countV (scan (bs a1) 0) = (scan (bs a1) 0).1.length := by simp [countV, hb]
      rw [hb] at hcab hnab
      rw [hcab, hnab, hcb, hca]
      clear hca hcab hnab hcb hb
      simp only [Option.isNone_none, if_true]
      generalize (scan (bs a0) 0).1.length = n0 at *
      generalize (scan (bs a1) 0).1.length = n1 at *
      go_wp2
      go_ret
      exact ⟨rfl, hb1⟩
end Go.Proofs.YthlmnbklhjcpnaaDoor
