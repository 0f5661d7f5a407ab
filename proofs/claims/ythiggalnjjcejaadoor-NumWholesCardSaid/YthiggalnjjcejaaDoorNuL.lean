/- The examples of numbers hold (layer 6); NumParses: the walk. -/
import Derived.Test.YthiggalnjjcejaaDoorNuK
import Derived.Test.YthiggalnjjcejaaDoorNuY
namespace Go.Proofs.YthiggalnjjcejaaDoor
set_option linter.unusedSimpArgs false
set_option linter.unusedVariables false
open Go.RowKit Go.Tab

/-- Parse by any text: both sides. -/
theorem Parse_eq (s : ByteArray) (hs : s.size ≤ 1048576) : ∃ r, (∀ W, TabS W → Calls Tryd.prog 10 #[.string s] W fun e w' => e = .returned (numOut r) ∧ Below W.heap.size W w') ∧ (∀ W, Calls Tryd.prog 11 #[.string s] W fun e w' => e = .returned (numOut r) ∧ Below W.heap.size W w') := by
  by_cases h : scanN s.data.toList = s.data.toList.length ∧ s.data.toList ≠ []
  · obtain ⟨neg, ip, fr, mk, sg, pw, hn⟩ := parts_of_scan _ h.1 h.2
    refine ⟨numVal neg ip fr (powP sg pw), fun W hT => Parse_good s neg ip fr mk sg pw W hT hs hn, fun W => ?_⟩
    have h2 := rParse_good s neg ip fr mk sg pw W hs hn
    rw [← numVal_near neg ip fr sg pw hn.dpw (by have := hn.len.1; rw [← size_list] at this; omega)] at h2
    exact h2
  · have h2 : s.data.toList = [] ∨ scanN s.data.toList ≠ s.size := by
      rw [size_list]
      by_cases h3 : s.data.toList = []
      · exact .inl h3
      · exact .inr (fun e => h ⟨e, h3⟩)
    exact ⟨((false, [], 0), 3), fun W hT => Parse_bad s W hT hs h2, fun W => rParse_bad s W hs h2⟩

theorem txt1 : NumTxt [45, 49, 46, 53, 48, 101, 49] true [49] [53, 48] [101] [] [49] := ⟨rfl, rfl, rfl, rfl, by simp, fun _ => rfl, .inr ⟨.inl rfl, .inl rfl, by simp⟩⟩
theorem val1 : numVal true [49] [53, 48] (powP [] [49]) = ((true, [49, 53], 0), 0) := by decide +kernel
theorem pr1 : (if numR true ⟨#[49, 53]⟩ 0 then printN true [49, 53] 0 else []) = [45, 49, 53] := by decide +kernel

set_option maxHeartbeats 4000000 in
set_option maxRecDepth 100000 in
theorem wakes_any (w : World) (hT : NumTab w) : Calls Tryd.prog 9 #[] w fun e w' => e = .returned (.bool true) ∧ Below w.heap.size w w' := by
  have h1 : ∀ W, NumTab W → Calls Tryd.prog 10 #[.string ⟨#[45, 49, 46, 53, 48, 101, 49]⟩] W fun e w' => e = .returned (.tuple #[.agg #[.bool true, .string ⟨#[49, 53]⟩, .int .i64 0], .int .i64 0]) ∧ Below W.heap.size W w' := fun W h => by
    have := Parse_good ⟨#[45, 49, 46, 53, 48, 101, 49]⟩ true [49] [53, 48] [101] [] [49] W h.steps (by decide) txt1
    rw [val1] at this
    exact this
  have h2 : ∀ W, NumTab W → Calls Tryd.prog 10 #[.string ⟨#[48, 49]⟩] W fun e w' => e = .returned (.tuple #[.agg #[.bool false, .string ⟨#[]⟩, .int .i64 0], .int .i64 3]) ∧ Below W.heap.size W w' := fun W h =>
    Parse_bad ⟨#[48, 49]⟩ W h.steps (by decide) (.inr (by decide))
  have h3 : ∀ W, NumTab W → Calls Tryd.prog 14 #[.agg #[.bool true, .string ⟨#[49, 53]⟩, .int .i64 0]] W fun e w' => e = .returned (.string ⟨#[45, 49, 53]⟩) ∧ Below W.heap.size W w' := fun W h => by
    have := Print_any true ⟨#[49, 53]⟩ 0 W h (by decide)
    rw [show (⟨#[49, 53]⟩ : ByteArray).data.toList = [49, 53] from rfl, pr1] at this
    exact this
  go_enter Tryd.func9, Tryd.ntmps9
  go_wp2_with fail
  refine (h1 _ hT).mono ?_
  rintro _ w1 ⟨rfl, hb1⟩
  have hT1 := hT.below hb1
  go_wp2_with fail
  have hx := Cells.new w1 #[.bool true, .string ⟨#[49, 53]⟩, .int .i64 0] 24
  have hbx := hb1.alloc hb1.size (.cells #[.bool true, .string ⟨#[49, 53]⟩, .int .i64 0] 24)
  have hTx := hT.below hbx
  refine (h2 _ hTx).mono ?_
  rintro _ w2 ⟨rfl, hb2⟩
  have hx2 := hx.below hb2 hx.lt
  have hb3 := hbx.trans (hb2.mono hbx.size)
  have hT3 := hT.below hb3
  have hz2 := hx2.lt
  clear hb1 hT1 hx hbx hTx hb2
  have hx2c0 := hx2.cell 0 _ rfl
  have hx2f0 := hx2.frozen 0
  have hx2c1 := hx2.cell 1 _ rfl
  have hx2f1 := hx2.frozen 1
  have hx2c2 := hx2.cell 2 _ rfl
  have hx2f2 := hx2.frozen 2
  have hby := hb3.alloc hb3.size (.cells #[.bool false, .string ⟨#[]⟩, .int .i64 0] 24)
  have hTy := hT.below hby
  go_wp2_with fail
  refine (h3 _ hTy).mono ?_
  rintro _ w3 ⟨rfl, hb4⟩
  go_wp2
  go_ret
  exact ⟨rfl, hby.trans (hb4.mono hby.size)⟩

set_option maxHeartbeats 4000000 in
set_option maxRecDepth 100000 in
theorem NumParses_walk (a0 : ByteArray) (w : World) (w0 : a0.size ≤ maxLen) (hT : NumTab w) :
    Calls Tryd.prog 3 #[.string a0] w fun e w' => e = .returned (.bool true) ∧ Below w.heap.size w w' := by
  have hW := wakes_any w hT
  unfold maxLen at w0
  by_cases hl : 1200 < a0.size
  · go_enter Tryd.func3, Tryd.ntmps3
    go_wp2_with fail
    refine hW.mono ?_
    rintro _ w1 ⟨rfl, hb1⟩
    go_wp2
    go_ret
    exact ⟨rfl, hb1⟩
  · obtain ⟨⟨⟨b, d, x⟩, z⟩, hP, hQ⟩ := Parse_eq a0 (by omega)
    obtain ⟨D, hD⟩ : ∃ D, strL d = D := ⟨_, rfl⟩
    have hP2 : ∀ W, TabS W → Calls Tryd.prog 10 #[.string a0] W fun e w' => e = .returned (.tuple #[.agg #[.bool b, .string D, .int .i64 x], .int .i64 z]) ∧ Below W.heap.size W w' := by subst hD; exact hP
    have hQ2 : ∀ W, Calls Tryd.prog 11 #[.string a0] W fun e w' => e = .returned (.tuple #[.agg #[.bool b, .string D, .int .i64 x], .int .i64 z]) ∧ Below W.heap.size W w' := by subst hD; exact hQ
    have hS := fun W h => Scan_any a0 W h (by unfold maxLen; omega)
    have hR := fun W => rScan_any a0 W (by omega)
    generalize scanN a0.data.toList = k at hS hR
    clear hP hQ hD
    go_enter Tryd.func3, Tryd.ntmps3
    go_wp2_with fail
    refine hW.mono ?_
    clear hW
    rintro _ w1 ⟨rfl, hb1⟩
    have hT1 := (hT.below hb1).steps
    go_wp2_with fail
    refine (hP2 _ hT1).mono ?_
    rintro _ w2 ⟨rfl, hb2⟩
    have hb3 := hb1.trans (hb2.mono hb1.size)
    have hx := Cells.new w2 #[.bool b, .string D, .int .i64 x] 24
    have hbx := hb3.alloc hb3.size (.cells #[.bool b, .string D, .int .i64 x] 24)
    clear hb1 hT1 hb2 hb3 hP2
    go_wp2_with fail
    refine (hQ2 _).mono ?_
    rintro _ w3 ⟨rfl, hb4⟩
    have hx2 := hx.below hb4 hx.lt
    have hb5 := hbx.trans (hb4.mono hbx.size)
    have hz2 := hx2.lt
    clear hbx hx hb4 hQ2
    have hx2c0 := hx2.cell 0 _ rfl
    have hx2f0 := hx2.frozen 0
    have hx2c1 := hx2.cell 1 _ rfl
    have hx2f1 := hx2.frozen 1
    have hx2c2 := hx2.cell 2 _ rfl
    have hx2f2 := hx2.frozen 2
    have hby := hb5.alloc hb5.size (.cells #[.bool b, .string D, .int .i64 x] 24)
    have hTy := (hT.below hby).steps
    go_wp2_with fail
    refine (hS _ hTy).mono ?_
    rintro _ _ ⟨rfl, n, rfl⟩
    go_wp2_with fail
    refine (hR _).mono ?_
    rintro _ _ ⟨rfl, rfl⟩
    go_wp2
    go_ret
    exact ⟨rfl, below_drewN hby _⟩
end Go.Proofs.YthiggalnjjcejaaDoor
