/- NumPrints (layer 6): the walk. -/
import Derived.Test.YthiggalnjjcejaaDoorNuE
import Derived.Test.YthiggalnjjcejaaDoorNuL
namespace Go.Proofs.YthiggalnjjcejaaDoor
set_option linter.unusedSimpArgs false
set_option linter.unusedVariables false
open Go.RowKit Go.Tab

theorem print_len {neg : Bool} {d : Bs} {e : Int} (h : RightD d e) : (printN neg d e).length ≤ 2000 ∧ printN neg d e ≠ [] := by
  have h1 := h.len
  have h2 := h.e1
  have h3 := h.e2
  have h0 := len_pos h.ne
  have hf : (front neg).length ≤ 1 := by cases neg <;> simp [front]
  have hi := Lib.itoa_length_le e (by omega) (by omega)
  unfold printN
  rw [if_neg h.ne]
  split
  · simp [zeros]
    exact ⟨by omega, fun _ h4 => absurd h4 h.ne⟩
  · split
    · simp; omega
    · split
      · simp
        omega
      · simp [zeros]; omega
/-- A number that is right is parsed from its print as it was. -/
theorem print_back {neg : Bool} {D : ByteArray} {e : Int} (h : numR neg D e = true) : (strL (printN neg D.data.toList e)).size ≤ 2000 ∧ (strL (printN neg D.data.toList e)).size ≠ 0 ∧
    ∃ ip fr mk sg pw, NumTxt (strL (printN neg D.data.toList e)).data.toList neg ip fr mk sg pw ∧ numVal neg ip fr (powP sg pw) = ((neg, D.data.toList, e), 0) := by
  rcases numR_list (neg := neg) (d := D.data.toList) (e := e) (by rw [← strL_of]; exact h) with ⟨h1, h2, h3⟩ | h1
  · subst h2 h3
    rw [h1]
    exact ⟨by decide, by decide, [48], [], [], [], [], print_nought.1, print_nought.2⟩
  · have h2 := print_len (neg := neg) h1
    rw [size_strL]
    refine ⟨h2.1, len_pos h2.2, ?_⟩
    obtain ⟨ip, fr, mk, sg, pw, h3, h4⟩ := print_num (neg := neg) h1
    exact ⟨ip, fr, mk, sg, pw, h3, h4⟩

set_option maxHeartbeats 4000000 in
set_option maxRecDepth 100000 in
theorem NumPrints_walk (nb0 : Bool) (nd0 : ByteArray) (ne0 : Int) (w : World) (w0 : nd0.size ≤ maxLen ∧ (Lit.int .i64 ne0).wf = true) (hT : NumTab w) :
    Calls Tryd.prog 4 #[.agg #[.bool nb0, .string nd0, .int .i64 ne0]] w fun e w' => e = .returned (.bool true) ∧ Below w.heap.size w w' := by
  replace w0 := w0.1
  unfold maxLen at w0
  have hb0 : Below w.heap.size w (w.alloc (.cells #[.bool nb0, .string nd0, .int .i64 ne0] 24)) := (Below.refl _ w).alloc (Nat.le_refl _) _
  have hx0 := Cells.new w #[.bool nb0, .string nd0, .int .i64 ne0] 24
  have hW := wakes_any _ (hT.below hb0)
  by_cases hl : 1200 < nd0.size
  · skip
    have hx0c0 := hx0.cell 0 _ rfl
    have hx0f0 := hx0.frozen 0
    have hx0c1 := hx0.cell 1 _ rfl
    have hx0f1 := hx0.frozen 1
    have hx0c2 := hx0.cell 2 _ rfl
    have hx0f2 := hx0.frozen 2
    go_enter Tryd.func4, Tryd.ntmps4
    go_wp2_with fail
    refine hW.mono ?_
    rintro _ w1 ⟨rfl, hb1⟩
    have hx1 := hx0.below hb1 hx0.lt
    have hbb := hb0.trans (hb1.mono hb0.size)
    clear hx0c0 hx0c1 hx0c2 hx0f0 hx0f1 hx0f2 hb1 hx0
    have hx1c0 := hx1.cell 0 _ rfl
    have hx1f0 := hx1.frozen 0
    have hx1c1 := hx1.cell 1 _ rfl
    have hx1f1 := hx1.frozen 1
    have hx1c2 := hx1.cell 2 _ rfl
    have hx1f2 := hx1.frozen 2
    go_wp2
    go_ret
    exact ⟨rfl, hbb⟩
  · obtain ⟨S, hS⟩ : ∃ S, strL (if numR nb0 nd0 ne0 then printN nb0 nd0.data.toList ne0 else []) = S := ⟨_, rfl⟩
    obtain ⟨r, hr⟩ : ∃ r, numR nb0 nd0 ne0 = r := ⟨_, rfl⟩
    have hP : ∀ W, NumTab W → Calls Tryd.prog 14 #[.agg #[.bool nb0, .string nd0, .int .i64 ne0]] W fun r w' => r = .returned (.string S) ∧ Below W.heap.size W w' := fun W h => by rw [← hS]; exact Print_any nb0 nd0 ne0 W h (by omega)
    have hSr : r = true → S.size ≤ 2000 ∧ S.size ≠ 0 ∧ ∃ ip fr mk sg pw, NumTxt S.data.toList nb0 ip fr mk sg pw ∧ numVal nb0 ip fr (powP sg pw) = ((nb0, nd0.data.toList, ne0), 0) := by
      intro h
      rw [← hr] at h
      rw [if_pos h] at hS
      rw [← hS]
      exact print_back h
    have hS0 : r = false → S = ⟨#[]⟩ := by
      intro h
      rw [← hr] at h
      rw [← hS, h]; rfl
    have hR1 := fun W => numRight_any nb0 nd0 ne0 W (by omega)
    have hR2 := fun W => rNumRight_any nb0 nd0 ne0 W (by omega)
    have hQ : ∀ W, Calls Tryd.prog 17 #[.agg #[.bool nb0, .string nd0, .int .i64 ne0]] W fun r w' => r = .returned (.string S) ∧ Below W.heap.size W w' := fun W => by rw [← hS]; exact rPrint_any nb0 nd0 ne0 W (by omega)
    rw [hr] at hR1 hR2
    have HSr := Lib.hid hSr
    have HS0 := Lib.hid hS0
    clear hr hS hSr hS0
    have hx0c0 := hx0.cell 0 _ rfl
    have hx0f0 := hx0.frozen 0
    have hx0c1 := hx0.cell 1 _ rfl
    have hx0f1 := hx0.frozen 1
    have hx0c2 := hx0.cell 2 _ rfl
    have hx0f2 := hx0.frozen 2
    go_enter Tryd.func4, Tryd.ntmps4
    go_wp2_with fail
    refine hW.mono ?_
    clear hW
    rintro _ w1 ⟨rfl, hb1⟩
    have hx1 := hx0.below hb1 hx0.lt
    have hbb := hb0.trans (hb1.mono hb0.size)
    clear hx0c0 hx0c1 hx0c2 hx0f0 hx0f1 hx0f2 hb1 hx0 hb0
    have hx1c0 := hx1.cell 0 _ rfl
    have hx1f0 := hx1.frozen 0
    have hx1c1 := hx1.cell 1 _ rfl
    have hx1f1 := hx1.frozen 1
    have hx1c2 := hx1.cell 2 _ rfl
    have hx1f2 := hx1.frozen 2
    have hT1 := hT.below hbb
    go_wp2_with fail
    refine (hP _ hT1).mono ?_
    clear hP hT1
    rintro _ w2 ⟨rfl, hb2⟩
    have hx2 := hx1.below hb2 hx1.lt
    have hb3 := hbb.trans (hb2.mono hbb.size)
    clear hx1c0 hx1c1 hx1c2 hx1f0 hx1f1 hx1f2 hb2 hx1 hbb
    have hx2c0 := hx2.cell 0 _ rfl
    have hx2f0 := hx2.frozen 0
    have hx2c1 := hx2.cell 1 _ rfl
    have hx2f1 := hx2.frozen 1
    have hx2c2 := hx2.cell 2 _ rfl
    have hx2f2 := hx2.frozen 2
    have hc1 : ∀ x : Under w2, Calls Tryd.prog 15 #[.agg #[.bool nb0, .string nd0, .int .i64 ne0]] x.w fun e w' => e = .returned (.bool r) ∧ ∃ y : Under w2, w' = y.w := fun x => x.call (hR1 x.w)
    have hc2 : ∀ x : Under w2, Calls Tryd.prog 16 #[.agg #[.bool nb0, .string nd0, .int .i64 ne0]] x.w fun e w' => e = .returned (.bool r) ∧ ∃ y : Under w2, w' = y.w := fun x => x.call (hR2 x.w)
    have hc3 : ∀ x : Under w2, Calls Tryd.prog 17 #[.agg #[.bool nb0, .string nd0, .int .i64 ne0]] x.w fun e w' => e = .returned (.string S) ∧ ∃ y : Under w2, w' = y.w := fun x => x.call (hQ x.w)
    have X0 := fun x : Under w2 => (x.below.cell (by exact hx2.lt)).trans hx2c0
    have X1 := fun x : Under w2 => (x.below.cell (by exact hx2.lt)).trans hx2c1
    have X2 := fun x : Under w2 => (x.below.cell (by exact hx2.lt)).trans hx2c2
    clear hR1 hR2 hQ
    go_wp2_with fail
    refine wp_region_under w2 (by kernel_rfl) (by kernel_rfl) (Below.refl _ _) ?_
    repeat (go_big_quiet_step ((first | (with_reducible exact hc1 _) | (with_reducible exact hc2 _) | (with_reducible exact hc3 _))))
    refine wpQuiet_nil ?_
    rintro _ ⟨x, rfl⟩
    have hx3 := hx2.below x.below hx2.lt
    have hb4 := hb3.trans (x.below.mono hb3.size)
    generalize x.w = w3 at hx3 hb4 ⊢
    clear hx2c0 hx2c1 hx2c2 hx2f0 hx2f1 hx2f2 hx2 hb3 X0 X1 X2 hc1 hc2 hc3 x
    have hx3c0 := hx3.cell 0 _ rfl
    have hx3f0 := hx3.frozen 0
    have hx3c1 := hx3.cell 1 _ rfl
    have hx3f1 := hx3.frozen 1
    have hx3c2 := hx3.cell 2 _ rfl
    have hx3f2 := hx3.frozen 2
    have hT3 := (hT.below hb4).steps
    cases r with
    | false =>
      obtain rfl := HS0.out rfl
      have hPa : ∀ W, TabS W → Calls Tryd.prog 10 #[.string ⟨#[]⟩] W fun e w' => e = .returned (.tuple #[.agg #[.bool false, .string ⟨#[]⟩, .int .i64 0], .int .i64 3]) ∧ Below W.heap.size W w' := fun W h => Parse_bad ⟨#[]⟩ W h (by decide) (.inl rfl)
      clear HSr HS0
      go_wp2_with fail
      refine (hPa _ hT3).mono ?_
      rintro _ w4 ⟨rfl, hb5⟩
      have hbb := hb4.trans (hb5.mono hb4.size)
      go_wp2
      go_ret
      exact ⟨rfl, hbb.alloc hbb.size _⟩
    | true =>
      obtain ⟨hs1, hs2, ip, fr, mk, sg, pw, hn, hv⟩ := HSr.out rfl
      have hPa : ∀ W, TabS W → Calls Tryd.prog 10 #[.string S] W fun e w' => e = .returned (.tuple #[.agg #[.bool nb0, .string nd0, .int .i64 ne0], .int .i64 0]) ∧ Below W.heap.size W w' := fun W h => by
        have := Parse_good S nb0 ip fr mk sg pw W h (by omega) hn
        rw [hv] at this
        rw [strL_of nd0]
        exact this
      have hSc : ∀ W, TabS W → Calls Tryd.prog 12 #[.string S] W fun e w' => e = .returned (.int .i64 S.size) ∧ ∃ n, w' = W.drewN n := fun W h => by
        have := Scan_any S W h (by unfold maxLen; omega)
        rw [hn.scan.1, ← size_list] at this
        exact this
      have hne := ne_emp hs2
      clear HSr HS0 hn hv
      go_wp2_with fail
      refine (hPa _ hT3).mono ?_
      rintro _ w4 ⟨rfl, hb5⟩
      have hx4 := hx3.below hb5 hx3.lt
      have hb6 := hb4.trans (hb5.mono hb4.size)
      have hlt4 := hx4.lt
      clear hx3c0 hx3c1 hx3c2 hx3f0 hx3f1 hx3f2 hx3 hb4 hT3 hb5
      have hx4c0 := hx4.cell 0 _ rfl
      have hx4f0 := hx4.frozen 0
      have hx4c1 := hx4.cell 1 _ rfl
      have hx4f1 := hx4.frozen 1
      have hx4c2 := hx4.cell 2 _ rfl
      have hx4f2 := hx4.frozen 2
      have hb7 := hb6.alloc hb6.size (.cells #[.bool nb0, .string nd0, .int .i64 ne0] 24)
      have hT7 := (hT.below hb7).steps
      go_wp2_with fail
      refine (hSc _ hT7).mono ?_
      rintro _ _ ⟨rfl, n, rfl⟩
      go_wp2
      go_ret
      exact ⟨rfl, below_drewN hb7 _⟩
end Go.Proofs.YthiggalnjjcejaaDoor
