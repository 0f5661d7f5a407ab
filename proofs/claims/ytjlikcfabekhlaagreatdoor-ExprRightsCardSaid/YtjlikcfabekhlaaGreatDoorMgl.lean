/- Texts of this claim, one behind the other: BrD, ExV, RiA, RiB, RiC, RiD, RiF, TrwY, LxY, RgF, RiG, RiE, Spo. -/
import Derived.Test.YtjlikcfabekhlaaGreatDoorMgb
import Derived.Test.YtjlikcfabekhlaaGreatDoorMgc
import Derived.Test.YtjlikcfabekhlaaGreatDoorMgd
import Derived.Test.YtjlikcfabekhlaaGreatDoorMge
import Derived.Test.YtjlikcfabekhlaaGreatDoorMgf
import Derived.Test.YtjlikcfabekhlaaGreatDoorMgk
import Derived.RangeFuncNested
import Derived.RangeFuncBound
import Derived.RangeFuncBox
import Derived.RangeFuncCalls
import Derived.RangeFuncLeaves
import Derived.Shelf.Abstract
import Derived.Shelf.RegionOpen
import Derived.WalkKit
import Derived.WalkMore
import Derived.OwnWalkIn
import Derived.TacticsInMore
import Derived.LoopNIn
import Derived.LoopIn
import Derived.RangeFuncWrites
import Derived.RangeFuncKeeps
import Derived.Laws.EntriesVeiled
set_option linter.unusedSimpArgs false
set_option linter.unusedVariables false

/- The walk of ExprBraces (layer 12). -/
namespace Go.Proofs.YtjlikcfabekhlaaGreatDoor
open Go.RowKit Go.Tab

theorem filter_text {l : List Tok} {n : Nat} (h : ∀ t ∈ l, t.text.size ≤ n) : ∀ t ∈ l.filter plainB, t.text.size ≤ n := fun t ht => h t (List.mem_filter.1 ht).1
theorem exprParseT (l : List Tok) (base : Nat) (w : World) (v : Value) (h : OwnT base w v l) (hT : LexT w) (hs : l.length ≤ 100000) (hsh : ∀ t ∈ l, t.text.size ≤ 100000) : Calls Tryz.prog 15 #[v] w (ParX w (parE l)) :=
  exprParse_any w v l h.toks (fun b hb => (World.ownsRow.lt h b hb).2) hT.utf hT.utf.pos hs hsh
set_option maxHeartbeats 4000000 in
set_option maxRecDepth 100000 in
theorem ExprBraces_walk (a0 : ByteArray) (w : World) (w0 : a0.size ≤ maxLen) (hT : LexT w) :
    Calls Tryz.prog 3 #[.string a0] w fun e w' => e = .returned (.bool true) ∧ Below w.heap.size w w' := by
  have hW := wakes_any _ hT
  go_enter Tryz.func3, Tryz.ntmps3
  go_wp2_with fail
  refine hW.mono ?_
  rintro _ w2 ⟨rfl, hb2⟩
  clear hW
  by_cases h500 : 500 < a0.size
  · have hq : decide ((500 : Int) < (a0.size : Int)) = true := by rw [decide_eq_true_iff]; omega
    have HB := Lib.hid hb2
    clear h500 w0 hb2
    go_wp2_with fail
    go_ret
    exact ⟨rfl, HB.out⟩
  · have hq : decide ((500 : Int) < (a0.size : Int)) = false := by rw [decide_eq_false_iff_not]; omega
    have hP := rLex_any a0 w2 (by omega)
    have hl0 := lexL_len _ a0.data.toList 0 (Nat.le_refl _)
    have ht0 := lexL_text _ a0.data.toList 0 (Nat.le_refl _)
    rw [← size_list] at hl0
    simp only [← size_list] at ht0
    obtain ⟨⟨L, p, z⟩, hx⟩ : ∃ x, lexL a0.data.toList 0 = x := ⟨_, rfl⟩
    rw [hx] at hP hl0 ht0
    clear hx
    simp only at hP hl0 ht0
    have HT2 := Lib.hid (hT.below hb2)
    have HB2 := Lib.hid hb2
    have HS := Lib.hid h500
    clear h500 hT hb2
    go_wp2_with fail
    refine hP.mono ?_
    rintro _ w3 ⟨v3, rfl, hown3, hb3⟩
    have hPl := rPlain_any v3 L w3 hown3.toks (by have := HS.out; omega)
    have HB3 := Lib.hid (HB2.out.trans (hb3.mono HB2.out.size))
    have HT3 := Lib.hid (HT2.out.below hb3)
    obtain ⟨va, vc, rfl⟩ := hown3.len
    clear hP hown3 hb3 HT2 HB2
    have hfd : ∀ w : World, (Instr.field 26 (.agg #[.slice va L.length vc, .int .i64 p, .int .i64 z]) 0).run Tryz.prog w = .ok (.slice va L.length vc) w := fun _ => by kernel_rfl
    go_wp2_with fail
    refine hPl.mono ?_
    rintro _ w4 ⟨v4, rfl, hown4, hb4⟩
    have hl4 : (L.filter plainB).length ≤ 500 := Nat.le_trans (List.length_filter_le _ _) (by have := HS.out; omega)
    have ht4 := filter_text ht0
    generalize L.filter plainB = l at *
    have HB4 := Lib.hid (HB3.out.trans (hb4.mono HB3.out.size))
    have HT4 := Lib.hid (HT3.out.below hb4)
    have hE4 := exprParseT l _ w4 v4 hown4 HT4.out (by omega) (fun t ht => by have := ht4 t ht; have := HS.out; omega)
    have hW1 := fun v w h => wrapped_any v l sLp sRp w h (by omega)
    have hW2 := fun v w h => wrapped_any v l sLb sRb w h (by omega)
    have hE1 := fun v w b h hT => exprParseT (lpT :: (l ++ [rpT])) b w v h hT (by simp; omega) (by
      intro t ht
      simp only [List.mem_cons, List.mem_append, List.not_mem_nil, or_false] at ht
      rcases ht with rfl | ht | rfl
      · decide
      · have := ht4 t ht; have := HS.out; omega
      · decide)
    have hE2 := fun v w b h hT => exprParseT (lbT :: (l ++ [rbT])) b w v h hT (by simp; omega) (by
      intro t ht
      simp only [List.mem_cons, List.mem_append, List.not_mem_nil, or_false] at ht
      rcases ht with rfl | ht | rfl
      · decide
      · have := ht4 t ht; have := HS.out; omega
      · decide)
    have hWr := fun x h => par_wrap l x h (by omega)
    obtain ⟨va, vc, rfl⟩ := hown4.len
    have HO4 := Lib.hid hown4
    clear hPl hown4 hb4 HT3 HB3 ht0 ht4 hl0
    go_wp2_with fail
    refine hE4.mono ?_
    rintro _ w5 ⟨hb5, o5, t5, a5, n5, c5, rfl, hX5⟩
    clear hE4
    obtain ⟨⟨x, n, e⟩, hg⟩ : ∃ g, parE l = g := ⟨_, rfl⟩
    rw [hg] at hX5 ⊢
    simp only at hX5 ⊢
    have HG := Lib.hid hg
    have HX5 := Lib.hid hX5
    have hC5 := Cells.new w5 #[.string o5, .string t5, .slice a5 n5 c5] 30
    have HB5 := Lib.hid (HB4.out.trans (hb5.mono HB4.out.size))
    have HT5 := Lib.hid (HT4.out.below hb5)
    have HO5 := Lib.hid (HO4.out.below hb5 (Nat.le_refl _))
    clear hg hX5 hb5 HB4 HT4 HO4
    by_cases he : e = 0
    · by_cases hn : n = l.length
      · subst he
        subst hn
        have hqn : ((l.length : Int) != (l.length : Int)) = false := by simp
        have hq9 : decide ((900 : Int) < (l.length : Int)) = false := by rw [decide_eq_false_iff_not]; omega
        have hW := hW1 _ _ (OwnT.toks (HO5.out.alloc (.cells #[.string o5, .string t5, .slice a5 n5 c5] 30)))
        go_wp2_with fail
        refine hW.mono ?_
        clear hW
        rintro _ w6 ⟨v6, rfl, hown6, hb6⟩
        have hC6 := hC5.below hb6 hC5.lt
        have HB6 := Lib.hid ((HB5.out.alloc HB5.out.size (.cells #[.string o5, .string t5, .slice a5 n5 c5] 30)).trans (hb6.mono (by have := HB5.out.size; simp; omega)))
        have HT6 := Lib.hid ((HT5.out.below ((Below.refl _ _).alloc (Nat.le_refl _) (.cells #[.string o5, .string t5, .slice a5 n5 c5] 30))).below hb6)
        have HO6 := Lib.hid ((HO5.out.alloc (.cells #[.string o5, .string t5, .slice a5 n5 c5] 30)).below hb6 (Nat.le_refl _))
        have HX6 := Lib.hid (ExpAt.below (((Below.refl w5.heap.size w5).alloc (Nat.le_refl _) (.cells #[.string o5, .string t5, .slice a5 n5 c5] 30)).trans (hb6.mono (by simp))) _ _ (ExpIn.at _ _ HX5.out))
        have hE6 := hE1 _ _ _ hown6 HT6.out
        clear hown6 hb6 hC5 HT5 HO5 HB5 HX5
        go_wp2_with fail
        refine hE6.mono ?_
        clear hE6
        rintro _ w7 ⟨hb7, o7, t7, a7, n7, c7, rfl, hX7⟩
        have hW := hW2 _ _ (OwnT.toks ((HO6.out.below hb7 (Nat.le_refl _)).alloc (.cells #[.string o7, .string t7, .slice a7 n7 c7] 30)))
        have hC7 := (hC6.below hb7 hC6.lt).alloc (.cells #[.string o7, .string t7, .slice a7 n7 c7] 30)
        have hD7 := Cells.new w7 #[.string o7, .string t7, .slice a7 n7 c7] 30
        have hal : Below w7.heap.size w7 (w7.alloc (.cells #[.string o7, .string t7, .slice a7 n7 c7] 30)) := (Below.refl _ _).alloc (Nat.le_refl _) _
        have hb67 := hb7.trans (hal.mono hb7.size)
        have HB7 := Lib.hid (HB6.out.trans (hb67.mono HB6.out.size))
        have HT7 := Lib.hid (HT6.out.below hb67)
        have HX7 := Lib.hid (ExpAt.below hb67 _ _ HX6.out)
        have HY7 := Lib.hid (ExpAt.below hal _ _ (ExpIn.at _ _ hX7))
        have hsz : w5.heap.size ≤ w7.heap.size := by have := hC6.lt; have := hb7.size; omega
        have hWx := hWr x HG.out
        obtain ⟨⟨y, m, f⟩, hg1⟩ : ∃ g, parE (lpT :: (l ++ [rpT])) = g := ⟨_, rfl⟩
        rw [hg1] at hWx HY7 ⊢
        simp only at HY7 ⊢
        have hE7 := fun W b v h hT => hE2 v W b h hT
        obtain ⟨⟨z2, k, g⟩, hg2⟩ : ∃ g, parE (lbT :: (l ++ [rbT])) = g := ⟨_, rfl⟩
        rw [hg2] at hWx hE7
        simp only at hWx
        have HWX := Lib.hid hWx
        clear hX7 hal hb67 hb7 hC6 HT6 HO6 HX6 HB6 hE1 hE2 hW1 hW2 hWr hg1 hg2 hWx
        go_wp2_with fail
        generalize w7.alloc (.cells #[.string o7, .string t7, .slice a7 n7 c7] 30) = w8 at *
        generalize w7.heap.size = B7 at *
        refine hW.mono ?_
        clear hW
        rintro _ w9 ⟨v9, rfl, hown9, hb9⟩
        have hC9 := hC7.below hb9 hC7.lt
        have hD9 := hD7.below hb9 hD7.lt
        have HB9 := Lib.hid (HB7.out.trans (hb9.mono HB7.out.size))
        have HT9 := Lib.hid (HT7.out.below hb9)
        have HX9 := Lib.hid (ExpAt.below hb9 _ _ HX7.out)
        have HY9 := Lib.hid (ExpAt.below hb9 _ _ HY7.out)
        have hE9 := hE7 _ _ _ hown9 HT9.out
        clear hown9 hb9 hC7 hD7 HB7 HT7 HX7 HY7 hE7
        go_wp2_with fail
        refine hE9.mono ?_
        clear hE9
        rintro _ w10 ⟨hb10, o10, t10, a10, n10, c10, rfl, hX10⟩
        have hal : Below w10.heap.size w10 (w10.alloc (.cells #[.string o10, .string t10, .slice a10 n10 c10] 30)) := (Below.refl _ _).alloc (Nat.le_refl _) _
        have hb910 := hb10.trans (hal.mono hb10.size)
        have hC10 := hC9.below hb910 hC9.lt
        have hD10 := hD9.below hb910 hD9.lt
        have hF10 := Cells.new w10 #[.string o10, .string t10, .slice a10 n10 c10] 30
        have HB10 := Lib.hid (HB9.out.trans (hb910.mono HB9.out.size))
        have HX10 := Lib.hid (ExpAt.below hb910 _ _ HX9.out)
        have HY10 := Lib.hid (ExpAt.below hb910 _ _ HY9.out)
        have HZ10 := Lib.hid (ExpAt.below hal _ _ (ExpIn.at _ _ hX10))
        have hsz2 : B7 < w10.heap.size := by have := hD9.lt; have := hb10.size; omega
        simp only at HZ10
        clear hX10 hal hb910 hb10 hC9 hD9 HT9 HX9 HY9 HB9
        rcases HWX.out with ⟨h5, h6⟩ | ⟨h5, h6⟩
        · subst h5
          subst h6
          clear HG HX10 HY10 HZ10
          have HB := HB10
          go_wp2_with fail
          go_ret
          exact ⟨by simp, HB.out⟩
        · simp only [Prod.mk.injEq] at h5 h6
          obtain ⟨rfl, rfl, rfl⟩ := h5
          obtain ⟨rfl, rfl, rfl⟩ := h6
          have q1 : (((l.length + 2 : Nat) : Int) == (l.length : Int) + 2) = true := by rw [beq_iff_eq]; omega
          have hq9b : B7 < (w10.alloc (.cells #[.string o10, .string t10, .slice a10 n10 c10] 30)).heap.size := by simp; omega
          have hS1 := SameP.fix (b := true) (yes_iff rfl) (rSame_any y y _ _ _ HX10.out HY10.out)
          have HC10 := Lib.hid (And.intro hC10 (And.intro hD10 hF10))
          have hl5 := hC10.lt
          have hC10c0 := hC10.cell 0 _ rfl
          have hC10f0 := hC10.frozen 0
          have hC10c1 := hC10.cell 1 _ rfl
          have hC10f1 := hC10.frozen 1
          have hC10c2 := hC10.cell 2 _ rfl
          have hC10f2 := hC10.frozen 2
          have hD10c0 := hD10.cell 0 _ rfl
          have hD10f0 := hD10.frozen 0
          have hD10c1 := hD10.cell 1 _ rfl
          have hD10f1 := hD10.frozen 1
          have hD10c2 := hD10.cell 2 _ rfl
          have hD10f2 := hD10.frozen 2
          clear hC10 hD10 hF10 HWX HG
          simp only [vX] at hS1
          go_wp2_with fail
          generalize w10.alloc (.cells #[.string o10, .string t10, .slice a10 n10 c10] 30) = w11 at *
          generalize w10.heap.size = B10 at *
          refine hS1.mono ?_
          clear hS1 hC10c0 hC10c1 hC10c2 hC10f0 hC10f1 hC10f2 hD10c0 hD10c1 hD10c2 hD10f0 hD10f1 hD10f2
          rintro _ w12 ⟨rfl, hb12⟩
          obtain ⟨hC10, hD10, hF10⟩ := HC10.out
          have hl12 : w5.heap.size < w12.heap.size := Nat.lt_of_lt_of_le hl5 hb12.size
          have hC12 := hC10.below hb12 hl5
          have hF12 := hF10.below hb12 hF10.lt
          have hlF := hF12.lt
          have hal : Below w12.heap.size w12 (w12.alloc (.cells #[.string o5, .string t5, .slice a5 n5 c5] 30)) := (Below.refl _ _).alloc (Nat.le_refl _) _
          have hN := Cells.new w12 #[.string o5, .string t5, .slice a5 n5 c5] 30
          have hX12 := ExpAt.below (hb12.trans (hal.mono hb12.size)) _ _ HX10.out
          have hZ12 := ExpAt.below (hb12.trans (hal.mono hb12.size)) _ _ HZ10.out
          have hLX : ExpAt (w12.alloc (.cells #[.string o5, .string t5, .slice a5 n5 c5] 30)) (.mk oList oNo [y]) [.string oList, .string oNo, .slice (some ⟨w12.heap.size, 0, none⟩) 1 1] := by
            simp only [ExpAt]
            refine ⟨some ⟨w12.heap.size, 0, none⟩, 1, rfl, Nat.le_refl _, by decide, (fun h => by cases h), fun x hx _ => ?_⟩
            cases hx
            refine ⟨rfl, hN.lt, ?_⟩
            simp only [ExpsAt]
            exact ⟨⟨_, fun j u hu => by rw [Nat.zero_add]; exact hN.cell j u (by simpa using hu), hX12⟩, trivial⟩
          have hS2 := SameP.fix (b := true) (yes_iff rfl) (rSame_any _ _ _ _ _ hZ12 hLX)
          have HB12 := Lib.hid ((HB10.out.trans (hb12.mono HB10.out.size)).trans (hal.mono (Nat.le_trans HB10.out.size hb12.size)))
          clear hC10 hD10 hF10 HC10 hb12 hal hN hX12 hZ12 hLX HX10 HY10 HZ10 HB10
          simp only [vX] at hS2
          have hC12c0 := hC12.cell 0 _ rfl
          have hC12f0 := hC12.frozen 0
          have hC12c1 := hC12.cell 1 _ rfl
          have hC12f1 := hC12.frozen 1
          have hC12c2 := hC12.cell 2 _ rfl
          have hC12f2 := hC12.frozen 2
          have hF12c0 := hF12.cell 0 _ rfl
          have hF12f0 := hF12.frozen 0
          have hF12c1 := hF12.cell 1 _ rfl
          have hF12f1 := hF12.frozen 1
          have hF12c2 := hF12.cell 2 _ rfl
          have hF12f2 := hF12.frozen 2
          clear hC12 hF12
          go_wp2_with fail
          refine hS2.mono ?_
          clear hS2
          rintro _ w13 ⟨rfl, hb13⟩
          have HB := Lib.hid (HB12.out.trans (hb13.mono HB12.out.size))
          go_wp2_with fail
          go_ret
          exact ⟨rfl, HB.out⟩
      · have hqn : ((n : Int) != (l.length : Int)) = true := by rw [bne_iff_ne]; omega
        have HB := Lib.hid (HB5.out.alloc HB5.out.size (.cells #[.string o5, .string t5, .slice a5 n5 c5] 30))
        subst he
        clear hn
        go_wp2_with fail
        go_ret
        exact ⟨rfl, HB.out⟩
    · have hqe : (e != 0) = true := by rw [bne_iff_ne]; exact he
      have HB := Lib.hid (HB5.out.alloc HB5.out.size (.cells #[.string o5, .string t5, .slice a5 n5 c5] 30))
      clear he
      go_wp2_with fail
      go_ret
      exact ⟨rfl, HB.out⟩
end Go.Proofs.YtjlikcfabekhlaaGreatDoor

/- A copy of an expression, in memory of its own (layer 12). -/
namespace Go.Proofs.YtjlikcfabekhlaaGreatDoor
open Go.RowKit Go.Tab

/-- A copy: the same expression, in memory of its own. -/
def CopyX (t : Exp) (w : World) (e : Ending) (w' : World) : Prop := (∃ cs, e = .returned (vX cs) ∧ ExpIn (fun k => w.heap.size ≤ k) w' t cs) ∧ Below w.heap.size w w'
/-- Block B is being filled with copies of the kids: the first k are there. -/
def FillX (B : Nat) (kids : List Exp) (k : Nat) (w : World) : Prop := ∃ arr, Cells w B arr 30 ∧ arr.size = kids.length * 3 ∧
  ∀ j (h : j < kids.length), j < k → ∃ cs, (∀ i u, cs[i]? = some u → arr[j * 3 + i]? = some u) ∧ ExpIn (fun m => B < m) w kids[j] cs
theorem FillX.below {B k : Nat} {kids : List Exp} {w w' : World} (h : FillX B kids k w) (hb : Below w.heap.size w w') : FillX B kids k w' := by
  obtain ⟨arr, h1, h2, h3⟩ := h
  refine ⟨arr, h1.below hb h1.lt, h2, fun j hj hjk => ?_⟩
  obtain ⟨cs, g1, g2⟩ := h3 j hj hjk
  exact ⟨cs, g1, ExpIn.below hb _ _ g2⟩
theorem FillX.step {B k : Nat} {kids : List Exp} {w : World} (h : FillX B kids k w) (hk : k < kids.length) {cs : List Value} (hcs : cs.length = 3) (hv : ExpIn (fun m => B < m) w kids[k] cs) :
    FillX B kids (k + 1) (setAll w B (k * 3) cs) := by
  obtain ⟨arr, h1, h2, h3⟩ := h
  have hmove : ∀ (t : Exp) (cs' : List Value), ExpIn (fun m => B < m) w t cs' → ExpIn (fun m => B < m) (setAll w B (k * 3) cs) t cs' := fun t cs' hv' =>
    ExpIn.move (Nat.le_of_eq (setAll_size B _ _ _).symm) (fun m hm _ => setAll_other B _ _ _ m (by omega)) (fun _ h _ => h) t cs' hv'
  refine ⟨_, h1.put cs (k * 3), by rw [putAll_size]; exact h2, fun j hj hjk => ?_⟩
  by_cases hjk' : j = k
  · subst hjk'
    exact ⟨cs, fun i u hu => putAll_in cs arr (j * 3) i u (by omega) hu, hmove _ _ hv⟩
  · obtain ⟨cs', g1, g2⟩ := h3 j hj (by omega)
    have hl8 := ExpIn.len3 g2
    refine ⟨cs', fun i u hu => ?_, hmove _ _ g2⟩
    rw [putAll_out]
    · exact g1 i u hu
    · have := (List.getElem?_eq_some_iff.1 hu).1
      left
      omega
theorem FillX.done {B base : Nat} {kids : List Exp} {w : World} (h : FillX B kids kids.length w) (hb : base ≤ B) : ExpsIn (fun m => base ≤ m) w B 0 kids := by
  obtain ⟨arr, h1, h2, h3⟩ := h
  refine ExpsIn.make kids 0 (fun k hk => ?_)
  obtain ⟨cs, g1, g2⟩ := h3 k hk hk
  exact ⟨cs, fun j u hu => h1.cell _ _ (by rw [Nat.zero_add]; exact g1 j u hu), ExpIn.move (Nat.le_refl _) (fun _ _ _ => rfl) (fun m hm _ => by omega) _ _ g2⟩

set_option maxHeartbeats 4000000 in
set_option maxRecDepth 100000 in
theorem CopyX_step (n : Nat) (IH : ∀ (t : Exp), t.bulk ≤ n → t.bulk ≤ 1048576 → ∀ (w : World) (cs : List Value), ExpAt w t cs → Calls Tryz.prog 19 #[vX cs] w (CopyX t w))
    (op text : ByteArray) (kids : List Exp) (h : (Exp.mk op text kids).bulk ≤ n + 1) (hmax : (Exp.mk op text kids).bulk ≤ 1048576)
    (w : World) (cs : List Value) (hv : ExpAt w (.mk op text kids) cs) : Calls Tryz.prog 19 #[vX cs] w (CopyX (.mk op text kids) w) := by
  have hkb : bulkX kids ≤ n ∧ 1 + op.size + text.size + bulkX kids ≤ 1048576 := by simp only [Exp.bulk] at h hmax; omega
  obtain ⟨a, cap, rfl, hl, hm, hnil, hx⟩ := hv.open
  have hll := len_bulkX kids
  unfold maxLen at hm
  simp only [vX]
  clear h hmax hv
  have hb1 : Below w.heap.size w (((w.alloc (.cells #[.string op, .string text, .slice a kids.length cap] 30)).alloc (.cells zeroC 30)).alloc (.cells #[.string op, .string text, .slice none 0 0] 30)) :=
    (((Below.refl _ w).alloc (Nat.le_refl _) _).alloc (by simp) _).alloc (by simp only [World.size_alloc]; omega) _
  have hc0 := ((Cells.new w #[.string op, .string text, .slice a kids.length cap] 30).alloc (.cells zeroC 30)).alloc (.cells #[.string op, .string text, .slice none 0 0] 30)
  have hc1 := (Cells.new (w.alloc (.cells #[.string op, .string text, .slice a kids.length cap] 30)) zeroC 30).alloc (.cells #[.string op, .string text, .slice none 0 0] 30)
  have hc2 := Cells.new ((w.alloc (.cells #[.string op, .string text, .slice a kids.length cap] 30)).alloc (.cells zeroC 30)) #[.string op, .string text, .slice none 0 0] 30
  simp only [World.size_alloc] at hc1 hc2
  have hz1 : (((w.alloc (.cells #[.string op, .string text, .slice a kids.length cap] 30)).alloc (.cells zeroC 30)).alloc (.cells #[.string op, .string text, .slice none 0 0] 30)).heap.size = w.heap.size + 3 := by simp only [World.size_alloc]
  by_cases hne : kids = []
  · subst hne
    have HB := Lib.hid (And.intro hb1 hc1)
    clear hb1 hc0 hc1 hc2 hz1 hx
    go_enter Tryz.func19, Tryz.ntmps19
    go_wp2_with fail
    have hbA : Below w.heap.size w (((w.alloc (.cells #[.string op, .string text, .slice a 0 cap] 30)).alloc (.cells #[.string op, .string text, .slice none 0 0] 30)).alloc (.cells #[.string op, .string text, .slice none 0 0] 30)) :=
      (((Below.refl _ w).alloc (Nat.le_refl _) _).alloc (by simp) _).alloc (by simp only [World.size_alloc]; omega) _
    have hq := (Cells.new (w.alloc (.cells #[.string op, .string text, .slice a 0 cap] 30)) #[.string op, .string text, .slice none 0 0] 30).alloc (.cells #[.string op, .string text, .slice none 0 0] 30)
    simp only [World.size_alloc] at hq
    have hx := hq.cell 0 _ rfl
    have hy := hq.cell 1 _ rfl
    have hz := hq.cell 2 _ rfl
    refine bodyPost_ret (v := .agg #[.string op, .string text, .slice none 0 0]) (by simp [results, Tryz.results19, go_sem, hx, hy, hz]) rfl ?_
    exact ⟨⟨[.string op, .string text, .slice none 0 0], rfl, ExpIn.leaf _ _ op text⟩, hbA⟩
  · have hn0 : 0 < kids.length := by rcases kids with _ | ⟨_, _⟩ <;> simp_all
    cases a with
    | none => have := hnil rfl; omega
    | some x =>
    obtain ⟨bb, off, sp⟩ := x
    obtain ⟨rfl, hlt, hkids⟩ := hx _ rfl hne
    simp only at hlt hkids
    clear hx hnil
    go_enter Tryz.func19, Tryz.ntmps19
    go_wp2_with (with_reducible first | refine stop_append ?_ | refine stop_make ?_ | refine stop_slice ?_ | refine stop_copy ?_); refine Stop.out ?_
    refine wpList_make_all rfl _ _ _ rfl 30 56 3 _ Tryz.underlying28 Tryz.infoExp _ _ kids.length rfl rfl (by omega) (by unfold maxLen; omega) ?_
    intro M w2 hM hw2
    have hb2 : Below w.heap.size w w2 := by rw [hw2]; exact hb1.alloc hb1.size _
    have hd0 : Cells w2 w.heap.size #[.string op, .string text, .slice (some ⟨bb, off, none⟩) kids.length cap] 30 := by rw [hw2]; exact hc0.alloc _
    have hd1 : Cells w2 (w.heap.size + 1) zeroC 30 := by rw [hw2]; exact hc1.alloc _
    have hd2 : Cells w2 (w.heap.size + 1 + 1) #[.string op, .string text, .slice none 0 0] 30 := by rw [hw2]; exact hc2.alloc _
    have hdB : Cells w2 (w.heap.size + 3) M 30 := by
      rw [hw2]
      have := Cells.new (((w.alloc (.cells #[.string op, .string text, .slice (some ⟨bb, off, none⟩) kids.length cap] 30)).alloc (.cells zeroC 30)).alloc (.cells #[.string op, .string text, .slice none 0 0] 30)) M 30
      rw [hz1] at this
      exact this
    have hz4 : w2.heap.size = w.heap.size + 4 := by rw [hw2]; simp only [World.size_alloc]
    clear hw2 hb1 hc0 hc1 hc2 hz1
    simp only [World.size_alloc]
    obtain ⟨B, hB⟩ : ∃ B, B = w.heap.size + 3 := ⟨_, rfl⟩
    rw [← hB] at hdB
    rw [show w.heap.size + 1 + 1 + 1 = B by omega]
    have hz0 := hd0.lt
    have hz5 := hd2.lt
    have hB3 : w.heap.size + 3 ≤ B := by omega
    have hB4 : B < w2.heap.size := by omega
    have hn1 : ¬ B = w.heap.size + 1 + 1 := by omega
    have hn2 : ¬ w.heap.size + 1 + 1 = B := by omega
    have H2 := Lib.hid (And.intro (hd0.setOther ⟨w.heap.size + 1 + 1, 2, none⟩ (.slice (some ⟨B, 0, none⟩) kids.length kids.length) (by show w.heap.size + 1 + 1 ≠ _; omega)) (And.intro (hd1.setOther ⟨w.heap.size + 1 + 1, 2, none⟩ (.slice (some ⟨B, 0, none⟩) kids.length kids.length) (by show w.heap.size + 1 + 1 ≠ _; omega)) (And.intro (hd2.setI 2 (.slice (some ⟨B, 0, none⟩) kids.length kids.length)) (And.intro (hdB.setOther ⟨w.heap.size + 1 + 1, 2, none⟩ (.slice (some ⟨B, 0, none⟩) kids.length kids.length) (by show w.heap.size + 1 + 1 ≠ _; omega)) (hb2.setCell (p := ⟨w.heap.size + 1 + 1, 2, none⟩) (by show w.heap.size ≤ w.heap.size + 1 + 1; omega) (.slice (some ⟨B, 0, none⟩) kids.length kids.length))))))
    have hd0c0 := hd0.cell 0 _ rfl
    have hd0f0 := hd0.frozen 0
    have hd0c1 := hd0.cell 1 _ rfl
    have hd0f1 := hd0.frozen 1
    have hd0c2 := hd0.cell 2 _ rfl
    have hd0f2 := hd0.frozen 2
    have hd2c0 := hd2.cell 0 _ rfl
    have hd2f0 := hd2.frozen 0
    have hd2c1 := hd2.cell 1 _ rfl
    have hd2f1 := hd2.frozen 1
    have hd2c2 := hd2.cell 2 _ rfl
    have hd2f2 := hd2.frozen 2
    clear hd0 hd1 hd2 hdB hb2 hB hz4
    go_wp2_with fail
    go_loopw [23] (fun i wr => ∃ k : Nat, k ≤ kids.length ∧ i = .int .i64 (k : Int) ∧ Cells wr (w.heap.size + 1) zeroC 30 ∧ Cells wr (w.heap.size + 1 + 1) #[.string op, .string text, .slice (some ⟨B, 0, none⟩) kids.length kids.length] 30 ∧ FillX B kids k wr ∧ Below w.heap.size w wr) (fun i _ => kids.length - (intOf i).toNat)
    case atStart =>
      obtain ⟨q0, q1, q2, q3, q4⟩ := H2.out
      exact ⟨0, Nat.zero_le _, rfl, q1, q2, ⟨M, q3, hM, fun j _ h => by omega⟩, q4⟩
    case round =>
      clear hd0c0 hd0c1 hd0c2 hd0f0 hd0f1 hd0f2 hd2c0 hd2c1 hd2c2 hd2f0 hd2f1 hd2f2 H2
      obtain ⟨k, hk, rfl, hd1, hd2, hfill, hbl⟩ := hrel
      have hy1 := hd1.lt
      have hy2 := hd2.lt
      by_cases hkl : k < kids.length
      · obtain ⟨kc0, hkc, hkv⟩ := ExpsAt.get (ExpsAt.below hbl hlt kids _ hkids) k hkl
        obtain ⟨kop, ktext, ksa, ksn, ksc, rfl, m0, m1, m2⟩ := exp_at hkv hkc
        have hr1 := Nat.lt_of_lt_of_le hlt hbl.size
        have hIH := IH kids[k] (by have := bulkX_kid hkl; omega) (by have := bulkX_kid hkl; omega)
        have hN := Cells.new wr #[.string kop, .string ktext, .slice ksa ksn ksc] 30
        have hd2a := hd2.alloc (.cells #[.string kop, .string ktext, .slice ksa ksn ksc] 30)
        have hda1 := hd1.alloc (.cells #[.string kop, .string ktext, .slice ksa ksn ksc] 30)
        have hfa : FillX B kids k (wr.alloc (.cells #[.string kop, .string ktext, .slice ksa ksn ksc] 30)) := hfill.below ((Below.refl _ _).alloc (Nat.le_refl _) _)
        have hbla := hbl.alloc hbl.size (.cells #[.string kop, .string ktext, .slice ksa ksn ksc] 30)
        have hkva := hkv.below_alloc (.cells #[.string kop, .string ktext, .slice ksa ksn ksc] 30)
        have hza : (wr.alloc (.cells #[.string kop, .string ktext, .slice ksa ksn ksc] 30)).heap.size = wr.heap.size + 1 := by simp
        have hBr : B < wr.heap.size := by obtain ⟨arr, f1, -⟩ := hfill; exact f1.lt
        have hd2c0 := hd2.cell 0 _ rfl
        have hd2f0 := hd2.frozen 0
        have hd2c1 := hd2.cell 1 _ rfl
        have hd2f1 := hd2.frozen 1
        have hd2c2 := hd2.cell 2 _ rfl
        have hd2f2 := hd2.frozen 2
        go_wp2_with fail
        generalize wr.alloc (.cells #[.string kop, .string ktext, .slice ksa ksn ksc] 30) = wa at *
        have hC1 := hIH _ _ (ExpAt.below (Below.refl _ wa).drew _ _ hkva)
        have hfad := FillX.below hfa (Below.refl _ wa).drew
        clear hIH hkv hkva hkc IH m0 m1 m2 hd2c0 hd2c1 hd2c2 hd2f0 hd2f1 hd2f2 hd1 hd2 hfill hbl
        simp only [vX] at hC1
        have g7 := hd2a.cell 2 _ rfl
        have hn3 : ¬ B = wr.heap.size := by omega
        have hn4 : ¬ wr.heap.size = B := by omega
        have r0 := hN.cell 0 _ rfl
        have r1 := hN.cell 1 _ rfl
        have r2 := hN.cell 2 _ rfl
        go_region_held3 (fun w' => w'.cell? ⟨w.heap.size + 1 + 1, 2, none⟩ = some (.slice (some ⟨B, 0, none⟩) kids.length kids.length) ∧ w'.cell? ⟨wr.heap.size, 0, none⟩ = some (.string kop) ∧ w'.cell? ⟨wr.heap.size, 1, none⟩ = some (.string ktext) ∧ w'.cell? ⟨wr.heap.size, 2, none⟩ = some (.slice ksa ksn ksc)) (first | (with_reducible exact ⟨g73, r03, r13, r23⟩) | go_keep) (first | (go_at_call 19; refine hC1.mono ?_; rintro e w3 ⟨⟨cs3, rfl, hin⟩, hb3'⟩; obtain ⟨op3, text3, sa3, sn3, sc3, rfl⟩ := ExpIn.shape hin; have hN3 := hN.drew.below hb3' hN.lt; have hd23 := hd2a.drew.below hb3' hd2a.lt; have g73 := hd23.cell 2 _ rfl; have r03 := hN3.cell 0 _ rfl; have r13 := hN3.cell 1 _ rfl; have r23 := hN3.cell 2 _ rfl; have HF3 := Lib.hid (FillX.below hfad hb3'); obtain ⟨arr3, ha3, hs3, -⟩ := HF3.out; have hlt3 := ha3.lt; have HIN := Lib.hid hin; clear hin; have HB3 := Lib.hid hb3'; clear hb3'; have HN3 := Lib.hid hN3; have HD23 := Lib.hid hd23; clear hN3 hd23; have z0 := ha3.cell (k * 3 + 0) _ (Array.getElem?_eq_getElem (by omega)); have y0 := ha3.frozen (k * 3 + 0); have z1 := ha3.cell (k * 3 + 1) _ (Array.getElem?_eq_getElem (by omega)); have y1 := ha3.frozen (k * 3 + 1); have z2 := ha3.cell (k * 3 + 2) _ (Array.getElem?_eq_getElem (by omega)); have y2 := ha3.frozen (k * 3 + 2); simp only [Nat.add_zero] at z0 y0; clear ha3; simp only [vX]))
        have HD1 := Lib.hid ((hda1.drew.below HB3.out hda1.lt).setAllOther (B := B) (o := k * 3) (l := [.string op3, .string text3, .slice sa3 sn3 sc3]) (by omega))
        have HD2 := Lib.hid (HD23.out.setAllOther (B := B) (o := k * 3) (l := [.string op3, .string text3, .slice sa3 sn3 sc3]) (by omega))
        have HF4 := Lib.hid (FillX.step HF3.out hkl (cs := [.string op3, .string text3, .slice sa3 sn3 sc3]) rfl (ExpIn.move (Nat.le_refl _) (fun _ _ _ => rfl) (fun m (hm : wa.heap.size ≤ m) _ => by show B < m; omega) _ _ HIN.out))
        have HBE := Lib.hid (setAll_below B w.heap.size (by omega) [.string op3, .string text3, .slice sa3 sn3 sc3] (k * 3) _ _ (hbla.trans (Below.mono (B := wa.heap.size) ((Below.refl wa.heap.size wa).drew.trans HB3.out) hbla.size)))
        clear HF3 HIN HB3 HN3 HD23 hda1 hd2a hN hfa hfad hbla hC1
        all_goals
          go_wp2_with fail
          go_roundw
          case rel => exact ⟨k + 1, hkl, by go_num, HD1.out, HD2.out, HF4.out, HBE.out⟩
          case measure => simp [intOf]; omega
      · obtain rfl : k = kids.length := by omega
        have HBL := Lib.hid hbl
        have HF := Lib.hid hfill
        have HQ := Lib.hid hd1
        clear hbl hfill IH
        have hd1c0 := hd1.cell 0 _ rfl
        have hd1f0 := hd1.frozen 0
        have hd1c1 := hd1.cell 1 _ rfl
        have hd1f1 := hd1.frozen 1
        have hd1c2 := hd1.cell 2 _ rfl
        have hd1f2 := hd1.frozen 2
        have hd2c0 := hd2.cell 0 _ rfl
        have hd2f0 := hd2.frozen 0
        have hd2c1 := hd2.cell 1 _ rfl
        have hd2f1 := hd2.frozen 1
        have hd2c2 := hd2.cell 2 _ rfl
        have hd2f2 := hd2.frozen 2
        clear hd1 hd2
        go_wp2_with fail
        have hqq := ((HQ.out.setI 0 (.string op)).setI 1 (.string text)).setI 2 (.slice (some ⟨B, 0, none⟩) kids.length kids.length)
        have hx := hqq.cell 0 _ rfl
        have hy := hqq.cell 1 _ rfl
        have hz := hqq.cell 2 _ rfl
        refine bodyPost_ret (v := .agg #[.string op, .string text, .slice (some ⟨B, 0, none⟩) kids.length kids.length]) (by simp [results, Tryz.results19, go_sem, hx, hy, hz]) rfl ?_
        have hB9 := setAll_below (w.heap.size + 1) w.heap.size (by omega) [.string op, .string text, .slice (some ⟨B, 0, none⟩) kids.length kids.length] 0 _ _ HBL.out
        show CopyX _ w _ (setAll wr (w.heap.size + 1) 0 [.string op, .string text, .slice (some ⟨B, 0, none⟩) kids.length kids.length])
        have hBl : B < wr.heap.size := by obtain ⟨arr, f1, -⟩ := HF.out; exact f1.lt
        have hval : ExpIn (fun k => B ≤ k) wr (.mk op text kids) [.string op, .string text, .slice (some ⟨B, 0, none⟩) kids.length kids.length] := by
          simp only [ExpIn]
          refine ⟨_, kids.length, rfl, Nat.le_refl _, by unfold maxLen; omega, (fun h => by cases h), fun x hx _ => ?_⟩
          cases hx
          exact ⟨rfl, ⟨hBl, Nat.le_refl _, fun off => by obtain ⟨arr, f1, -⟩ := HF.out; exact f1.frozen off⟩, HF.out.done (Nat.le_refl _)⟩
        refine ⟨⟨_, rfl, ?_⟩, hB9⟩
        exact ExpIn.move (P := fun k => B ≤ k) (w := wr) (Nat.le_of_eq (setAll_size _ _ _ _).symm) (fun m hm _ => setAll_other _ _ _ _ m (by omega)) (fun m hm _ => by omega) _ _ hval
theorem CopyX_upto (n : Nat) : ∀ (t : Exp), t.bulk ≤ n → t.bulk ≤ 1048576 → ∀ (w : World) (cs : List Value), ExpAt w t cs → Calls Tryz.prog 19 #[vX cs] w (CopyX t w) := by
  induction n with
  | zero => intro t h; have := bulkX_pos t; omega
  | succ n IH =>
    intro t h hmax w cs hv
    cases t
    exact CopyX_step n IH _ _ _ h hmax w cs hv
theorem CopyX_any (t : Exp) (hb : t.bulk ≤ 1048576) (w : World) (cs : List Value) (hv : ExpAt w t cs) : Calls Tryz.prog 19 #[vX cs] w (CopyX t w) :=
  CopyX_upto t.bulk t (Nat.le_refl _) hb w cs hv
end Go.Proofs.YtjlikcfabekhlaaGreatDoor

/- How many kids an Op has, and what text (layer 12). -/
namespace Go.Proofs.YtjlikcfabekhlaaGreatDoor
open Go.RowKit Go.Tab

/-- The Ops: how many kids (-1: as many as may be), and which text: 0 none, 1 a name, 2 a number, 3 any text. -/
def kTab : List (Bs × Int × Nat) := [([63], 3, 0), ([124, 124], 2, 0), ([38, 38], 2, 0), ([61, 61], 2, 0), ([33, 61], 2, 0), ([60], 2, 0), ([62], 2, 0), ([60, 61], 2, 0), ([62, 61], 2, 0), ([43], 2, 0), ([45], 2, 0), ([42], 2, 0), ([47], 2, 0), ([37], 2, 0), ([33], 1, 0), ([110, 101, 103], 1, 0), ([103, 101, 116], 1, 1), ([97, 116], 2, 0), ([110, 97, 109, 101], 0, 1), ([99, 97, 108, 108], -1, 1), ([110, 117, 109], 0, 2), ([116, 101, 120, 116], 0, 3), ([108, 105, 115, 116], -1, 0)]
def kOf (s : ByteArray) : Option (Int × Nat) := (kTab.find? (fun x => x.1 == s.data.toList)).map (·.2)
theorem k_cases (s : ByteArray) : (∃ x ∈ kTab, s = strL x.1 ∧ kOf s = some x.2) ∨ (kOf s = none ∧ ∀ x ∈ lvTab, s ≠ strL x.1) := by
  unfold kOf
  cases hf : kTab.find? (fun x => x.1 == s.data.toList) with
  | some x =>
    refine .inl ⟨x, List.mem_of_find?_eq_some hf, ?_, rfl⟩
    have h1 := List.find?_some hf
    simp only [beq_iff_eq] at h1
    rw [h1]; exact strL_of s
  | none =>
    refine .inr ⟨rfl, fun x hx e => ?_⟩
    have h0 : lvTab.map (·.1) = kTab.map (·.1) := by kernel_rfl
    have hm : x.1 ∈ kTab.map (·.1) := by rw [← h0]; exact List.mem_map.2 ⟨x, hx, rfl⟩
    obtain ⟨y, hy, hxy⟩ := List.mem_map.1 hm
    have h1 := List.find?_eq_none.1 hf y hy
    rw [e, strL_list, hxy] at h1
    simp at h1
theorem lvv0 : lvN ⟨#[63]⟩ = 0 := by kernel_rfl
theorem lvv1 : lvN ⟨#[124, 124]⟩ = 1 := by kernel_rfl
theorem lvv2 : lvN ⟨#[38, 38]⟩ = 2 := by kernel_rfl
theorem lvv3 : lvN ⟨#[61, 61]⟩ = 3 := by kernel_rfl
theorem lvv4 : lvN ⟨#[33, 61]⟩ = 3 := by kernel_rfl
theorem lvv5 : lvN ⟨#[60]⟩ = 4 := by kernel_rfl
theorem lvv6 : lvN ⟨#[62]⟩ = 4 := by kernel_rfl
theorem lvv7 : lvN ⟨#[60, 61]⟩ = 4 := by kernel_rfl
theorem lvv8 : lvN ⟨#[62, 61]⟩ = 4 := by kernel_rfl
theorem lvv9 : lvN ⟨#[43]⟩ = 5 := by kernel_rfl
theorem lvv10 : lvN ⟨#[45]⟩ = 5 := by kernel_rfl
theorem lvv11 : lvN ⟨#[42]⟩ = 6 := by kernel_rfl
theorem lvv12 : lvN ⟨#[47]⟩ = 6 := by kernel_rfl
theorem lvv13 : lvN ⟨#[37]⟩ = 6 := by kernel_rfl
theorem lvv14 : lvN ⟨#[33]⟩ = 7 := by kernel_rfl
theorem lvv15 : lvN ⟨#[110, 101, 103]⟩ = 7 := by kernel_rfl
theorem lvv_none {s : ByteArray} (h : ∀ x ∈ lvTab, s ≠ strL x.1) : lvN s = -1 := by
  rcases lv_cases s with ⟨x, hx, e, -⟩ | ⟨h1, -⟩
  · exact absurd e (h x hx)
  · exact h1
set_option maxHeartbeats 4000000 in
set_option maxRecDepth 100000 in
theorem kids_any (s : ByteArray) (w : World) : Calls Tryz.prog 41 #[.string s] w fun e w' => e = .returned (.int .i64 (match kOf s with | none => -2 | some x => x.1)) ∧ w = w' := by
  rcases k_cases s with ⟨x, hx, rfl, hv⟩ | ⟨hv, h⟩
  · rw [hv]
    clear hv
    simp only [kTab, List.mem_cons, List.not_mem_nil, or_false] at hx
    rcases hx with rfl | rfl | rfl | rfl | rfl | rfl | rfl | rfl | rfl | rfl | rfl | rfl | rfl | rfl | rfl | rfl | rfl | rfl | rfl | rfl | rfl | rfl | rfl
    all_goals
      simp only [strL]
      go_enter Tryz.func41, Tryz.ntmps41
      go_wp2_with (go_at_call 76; refine (Level_any _ _).mono ?_; rintro _ _ ⟨rfl, rfl⟩; simp only [lvv0, lvv1, lvv2, lvv3, lvv4, lvv5, lvv6, lvv7, lvv8, lvv9, lvv10, lvv11, lvv12, lvv13, lvv14, lvv15])
      go_ret
      exact ⟨rfl, rfl⟩
  · rw [hv]
    have hl := lvv_none h
    have n0 := fresh s h [63] (by decide)
    have n1 := fresh s h [124, 124] (by decide)
    have n2 := fresh s h [38, 38] (by decide)
    have n3 := fresh s h [61, 61] (by decide)
    have n4 := fresh s h [33, 61] (by decide)
    have n5 := fresh s h [60] (by decide)
    have n6 := fresh s h [62] (by decide)
    have n7 := fresh s h [60, 61] (by decide)
    have n8 := fresh s h [62, 61] (by decide)
    have n9 := fresh s h [43] (by decide)
    have n10 := fresh s h [45] (by decide)
    have n11 := fresh s h [42] (by decide)
    have n12 := fresh s h [47] (by decide)
    have n13 := fresh s h [37] (by decide)
    have n14 := fresh s h [33] (by decide)
    have n15 := fresh s h [110, 101, 103] (by decide)
    have n16 := fresh s h [103, 101, 116] (by decide)
    have n17 := fresh s h [97, 116] (by decide)
    have n18 := fresh s h [110, 97, 109, 101] (by decide)
    have n19 := fresh s h [99, 97, 108, 108] (by decide)
    have n20 := fresh s h [110, 117, 109] (by decide)
    have n21 := fresh s h [116, 101, 120, 116] (by decide)
    have n22 := fresh s h [108, 105, 115, 116] (by decide)
    clear hv h
    go_enter Tryz.func41, Tryz.ntmps41
    go_wp2_with (go_at_call 76; refine (Level_any _ _).mono ?_; rintro _ _ ⟨rfl, rfl⟩; rw [hl])
    go_ret
    exact ⟨rfl, rfl⟩
end Go.Proofs.YtjlikcfabekhlaaGreatDoor

/- The text that an Op may have (layer 12). -/
namespace Go.Proofs.YtjlikcfabekhlaaGreatDoor
open Go.RowKit Go.Tab

/-- Is a text one token of a kind? -/
def aloneB (s : ByteArray) (k : Int) : Bool := match lexL s.data.toList 0 with
  | ([t], _, e) => decide (e = 0) && (decide (t.kind = k) && decide (t.text = s))
  | _ => false
def validB (s : ByteArray) : Bool := (scan (bs s) 0).2.isNone
def txtB (c : Nat) (t : ByteArray) : Bool := match c with
  | 0 => decide (t = ⟨#[]⟩)
  | 1 => aloneB t 1
  | 2 => aloneB t 2
  | _ => validB t
def AloneC : Prop := ∀ (s : ByteArray) (k : Int) (w : World), LexT w → s.size ≤ 1000 → Calls Tryz.prog 77 #[.string s, .int .i64 k] w fun e w' => e = .returned (.bool (aloneB s k)) ∧ Below w.heap.size w w'
theorem empty_dec (t : ByteArray) : (t.toList == []) = decide (t = ⟨#[]⟩) := by
  by_cases h : t = ⟨#[]⟩
  · subst h; kernel_rfl
  · have := str_ne h
    rw [decide_eq_false h]
    rw [show (⟨#[]⟩ : ByteArray).toList = [] by kernel_rfl] at this
    exact this
set_option maxHeartbeats 4000000 in
set_option maxRecDepth 100000 in
theorem worded_any (hA : AloneC) (s t : ByteArray) (a : Option Addr) (n c : Nat) (w : World) (hT : LexT w) (ht : t.size ≤ 1000) :
    Calls Tryz.prog 42 #[.agg #[.string s, .string t, .slice a n c]] w fun e w' => e = .returned (.bool (match kOf s with | none => decide (t = ⟨#[]⟩) | some x => txtB x.2 t)) ∧ Below w.heap.size w w' := by
  have hb1 : Below w.heap.size w (w.alloc (.cells #[.string s, .string t, .slice a n c] 30)) := (Below.refl _ w).alloc (Nat.le_refl _) _
  have hAA := fun k => hA t k _ (hT.below hb1) ht
  have hV := Valid_any t _ (hT.below hb1).utf (by omega)
  have HB := Lib.hid hb1
  obtain ⟨b, hb⟩ : ∃ b, decide (t = (⟨#[]⟩ : ByteArray)) = b := ⟨_, rfl⟩
  have hE := empty_dec t
  rw [hb] at hE
  unfold AloneC at hA
  clear hA hT hb1
  rcases k_cases s with ⟨x, hx, rfl, hv⟩ | ⟨hv, h⟩
  · rw [hv]
    clear hv
    simp only [kTab, List.mem_cons, List.not_mem_nil, or_false] at hx
    rcases hx with rfl | rfl | rfl | rfl | rfl | rfl | rfl | rfl | rfl | rfl | rfl | rfl | rfl | rfl | rfl | rfl | rfl | rfl | rfl | rfl | rfl | rfl | rfl
    all_goals
      simp only [strL, txtB, validB]
      simp only [strL] at hAA hV HB
      (try rw [hb])
      go_enter Tryz.func42, Tryz.ntmps42
      go_wp2_with (first | (go_at_call 77; refine (hAA _).mono ?_; rintro _ w2 ⟨rfl, hb2⟩; have HB2 := Lib.hid (HB.out.trans (hb2.mono HB.out.size)); clear hb2) | (go_at_call 78; refine hV.mono ?_; rintro _ _ ⟨rfl, rfl⟩))
      go_ret
      first | exact ⟨rfl, HB2.out⟩ | exact ⟨rfl, HB.out⟩
  · rw [hv]
    have n18 := fresh s h [110, 97, 109, 101] (by decide)
    have n19 := fresh s h [99, 97, 108, 108] (by decide)
    have n16 := fresh s h [103, 101, 116] (by decide)
    have n20 := fresh s h [110, 117, 109] (by decide)
    have n21 := fresh s h [116, 101, 120, 116] (by decide)
    simp only
    rw [hb]
    clear hv h
    go_enter Tryz.func42, Tryz.ntmps42
    go_wp2
    go_ret
    exact ⟨rfl, HB.out⟩
end Go.Proofs.YtjlikcfabekhlaaGreatDoor

/- Is an expression one that could have been told: this side (layer 12). -/
namespace Go.Proofs.YtjlikcfabekhlaaGreatDoor
open Go.RowKit Go.Tab

def okX (o t : ByteArray) (n : Nat) : Bool := match kOf o with
  | none => false
  | some x => (decide (x.1 = -1) || decide (x.1 = (n : Int))) && txtB x.2 t
mutual
/-- Could it have been told? -/
def rightX : Exp → Bool
  | .mk o t kids => okX o t kids.length && rightXs kids
def rightXs : List Exp → Bool
  | [] => true
  | t :: r => rightX t && rightXs r
end
theorem rightXs_take : ∀ (l : List Exp) (k : Nat) (h : k < l.length), rightXs (l.take (k + 1)) = (rightXs (l.take k) && rightX l[k])
  | t :: r, 0, _ => by simp [rightXs]
  | t :: r, k + 1, hk => by
    have := rightXs_take r k (by simpa using hk)
    simp only [List.take_succ_cons, rightXs, List.getElem_cons_succ, this, Bool.and_assoc]
theorem rightXs_bad : ∀ {l : List Exp} {k : Nat} (h : k < l.length), rightX l[k] = false → rightXs l = false
  | t :: r, 0, _, h => by simp only [List.getElem_cons_zero] at h; simp only [rightXs, h, Bool.false_and]
  | t :: r, k + 1, hk, h => by
    have := rightXs_bad (l := r) (k := k) (by simpa using hk) (by simpa using h)
    simp only [rightXs, this, Bool.and_false]
theorem ShortX.kid : ∀ {l : List Exp} {k : Nat} (h : k < l.length), ShortXs l → ShortX l[k]
  | t :: r, 0, _, h => by simp only [ShortXs] at h; exact h.1
  | t :: r, k + 1, hk, h => by
    simp only [ShortXs] at h
    exact ShortX.kid (l := r) (k := k) (by simpa using hk) h.2
set_option maxHeartbeats 4000000 in
set_option maxRecDepth 100000 in
theorem RightX_step (hA : AloneC) (n : Nat) (IH : ∀ (t : Exp), t.bulk ≤ n → ShortX t → ∀ (w : World) (cs : List Value), LexT w → ExpAt w t cs → Calls Tryz.prog 20 #[vX cs] w fun e w' => e = .returned (.bool (rightX t)) ∧ Below w.heap.size w w')
    (op text : ByteArray) (kids : List Exp) (h : (Exp.mk op text kids).bulk ≤ n + 1) (hs : ShortX (.mk op text kids)) (w : World) (cs : List Value) (hT : LexT w) (hv : ExpAt w (.mk op text kids) cs) :
    Calls Tryz.prog 20 #[vX cs] w fun e w' => e = .returned (.bool (rightX (.mk op text kids))) ∧ Below w.heap.size w w' := by
  have hkb : bulkX kids ≤ n := by simp only [Exp.bulk] at h; omega
  simp only [ShortX] at hs
  obtain ⟨a, cap, rfl, hl, hm, hnil, hx⟩ := hv.open
  unfold maxLen at hm
  simp only [vX]
  clear h hv
  have hb1 : Below w.heap.size w (w.alloc (.cells #[.string op, .string text, .slice a kids.length cap] 30)) := (Below.refl _ w).alloc (Nat.le_refl _) _
  have hc := Cells.new w #[.string op, .string text, .slice a kids.length cap] 30
  have hK := fun W => kids_any op W
  have hWd := worded_any hA op text a kids.length cap _ (hT.below hb1) (by omega)
  have hR : rightX (.mk op text kids) = (okX op text kids.length && rightXs kids) := by simp only [rightX]
  rw [hR]
  unfold okX
  unfold AloneC at hA
  have HX := Lib.hid hx
  have HIH := Lib.hid IH
  have HS := Lib.hid hs
  have HB := Lib.hid hb1
  have HT := Lib.hid hT
  have HC := Lib.hid hc
  clear hA hR hx IH hs hb1 hT hc
  generalize kOf op = q at *
  cases q with
  | none =>
    have hne : ((-2 : Int) != (kids.length : Int)) = true := by rw [bne_iff_ne]; omega
    go_enter Tryz.func20, Tryz.ntmps20
    go_wp2_with fail
    refine (hK _).mono ?_
    rintro _ _ ⟨rfl, rfl⟩
    go_wp2
    go_ret
    exact ⟨rfl, HB.out⟩
  | some x =>
    obtain ⟨kn, kc⟩ := x
    simp only at hK hWd ⊢
    by_cases hcount : kn = -1 ∨ kn = (kids.length : Int)
    · have hct : (decide (kn = -1) || decide (kn = (kids.length : Int))) = true := by simpa using hcount
      rw [hct, Bool.true_and]
      have hdec : ((kn != (kids.length : Int)) && (kn != -1)) = false := by
        rcases hcount with h | h <;> simp [h]
      generalize txtB kc text = tb at *
      go_enter Tryz.func20, Tryz.ntmps20
      go_wp2_with fail
      refine (hK _).mono ?_
      rintro _ _ ⟨rfl, rfl⟩
      rcases hcount with h1 | h1
      · subst h1
        have h2 : ((-1 : Int) != -1) = false := by decide
        have h3 : ((-1 : Int) != (kids.length : Int)) = true := by rw [bne_iff_ne]; omega
        clear hct hdec
        go_wp2_with fail
        refine hWd.mono ?_
        rintro _ w2 ⟨rfl, hb2⟩
        have hc2 := HC.out.below hb2 HC.out.lt
        have HB2 := Lib.hid (HB.out.trans (hb2.mono HB.out.size))
        have hy2 := hc2.lt
        have HC2 := Lib.hid hc2
        clear hb2 hWd hK
        have hc2c0 := hc2.cell 0 _ rfl
        have hc2f0 := hc2.frozen 0
        have hc2c1 := hc2.cell 1 _ rfl
        have hc2f1 := hc2.frozen 1
        have hc2c2 := hc2.cell 2 _ rfl
        have hc2f2 := hc2.frozen 2
        clear hc2
        cases tb with
        | false =>
          go_wp2
          go_ret
          exact ⟨rfl, HB2.out⟩
        | true =>
          go_wp2_with fail
          go_loopw [24] (fun i wr => ∃ k : Nat, k ≤ kids.length ∧ i = .int .i64 (k : Int) ∧ rightXs (kids.take k) = true ∧ Below w2.heap.size w2 wr) (fun i _ => kids.length - (intOf i).toNat)
          case atStart => exact ⟨0, Nat.zero_le _, rfl, by simp [rightXs], Below.refl _ _⟩
          case round =>
            clear hc2c0 hc2c1 hc2c2 hc2f0 hc2f1 hc2f2
            obtain ⟨k, hk, rfl, hall, hbl⟩ := hrel
            have HA := Lib.hid hall
            have HBL := Lib.hid hbl
            clear hall
            by_cases hkl : k < kids.length
            · have hne : kids ≠ [] := by intro h0; rw [h0] at hkl; simp at hkl
              cases a with
              | none => have := hnil rfl; omega
              | some x =>
              obtain ⟨bb, off, sp⟩ := x
              obtain ⟨rfl, hlt, hkids⟩ := KidsE.below (KidsE.below HX.out HB2.out) hbl _ rfl hne
              simp only at hlt hkids
              obtain ⟨kc0, hkc, hkv⟩ := ExpsAt.get hkids k hkl
              obtain ⟨kop, ktext, ksa, ksn, ksc, rfl, m0, m1, m2⟩ := exp_at hkv hkc
              have hIH := HIH.out kids[k] (by have := bulkX_kid hkl; omega) (ShortX.kid hkl HS.out.2.2)
              have HTk := Lib.hid (rightXs_take kids k hkl)
              have HBk := Lib.hid (fun h => rightXs_bad hkl h)
              have hT3 := HT.out.below (HB2.out.trans (hbl.mono HB2.out.size))
              have hbA : Below wr.heap.size wr (wr.alloc (.cells #[.string kop, .string ktext, .slice ksa ksn ksc] 30)) := (Below.refl _ _).alloc (Nat.le_refl _) _
              have hC := hIH _ _ (hT3.below hbA) (ExpAt.below hbA _ _ hkv)
              have HBA := Lib.hid (hbl.trans (hbA.mono hbl.size))
              clear hIH hkv hkc hkids hT3 hbA hbl
              simp only [vX] at hC
              generalize rightX kids[k] = rb at *
              go_wp2_with fail
              refine hC.mono ?_
              rintro _ w4 ⟨rfl, hb4⟩
              have HB4 := Lib.hid (HBA.out.trans (hb4.mono HBA.out.size))
              clear hC hb4
              cases rb with
              | false =>
                go_wp2
                go_ret
                exact ⟨by simp [HBk.out trivial], HB2.out.trans (HB4.out.mono HB2.out.size)⟩
              | true =>
                go_wp2_with fail
                go_roundw
                case rel => exact ⟨k + 1, hkl, by go_num, by rw [HTk.out, HA.out]; rfl, HB4.out⟩
                case measure => simp [intOf]; omega
            · obtain rfl : k = kids.length := by omega
              clear hbl
              go_wp2
              go_ret
              have h5 := HA.out
              rw [List.take_length] at h5
              exact ⟨by simp [h5], HB2.out.trans (HBL.out.mono HB2.out.size)⟩
      · have h3 : (kn != (kids.length : Int)) = false := by rw [h1]; simp
        have H1 := Lib.hid h1
        clear h1
        clear hct hdec
        go_wp2_with fail
        refine hWd.mono ?_
        rintro _ w2 ⟨rfl, hb2⟩
        have hc2 := HC.out.below hb2 HC.out.lt
        have HB2 := Lib.hid (HB.out.trans (hb2.mono HB.out.size))
        have hy2 := hc2.lt
        have HC2 := Lib.hid hc2
        clear hb2 hWd hK
        have hc2c0 := hc2.cell 0 _ rfl
        have hc2f0 := hc2.frozen 0
        have hc2c1 := hc2.cell 1 _ rfl
        have hc2f1 := hc2.frozen 1
        have hc2c2 := hc2.cell 2 _ rfl
        have hc2f2 := hc2.frozen 2
        clear hc2
        cases tb with
        | false =>
          go_wp2
          go_ret
          exact ⟨rfl, HB2.out⟩
        | true =>
          go_wp2_with fail
          go_loopw [24] (fun i wr => ∃ k : Nat, k ≤ kids.length ∧ i = .int .i64 (k : Int) ∧ rightXs (kids.take k) = true ∧ Below w2.heap.size w2 wr) (fun i _ => kids.length - (intOf i).toNat)
          case atStart => exact ⟨0, Nat.zero_le _, rfl, by simp [rightXs], Below.refl _ _⟩
          case round =>
            clear hc2c0 hc2c1 hc2c2 hc2f0 hc2f1 hc2f2
            obtain ⟨k, hk, rfl, hall, hbl⟩ := hrel
            have HA := Lib.hid hall
            have HBL := Lib.hid hbl
            clear hall
            by_cases hkl : k < kids.length
            · have hne : kids ≠ [] := by intro h0; rw [h0] at hkl; simp at hkl
              cases a with
              | none => have := hnil rfl; omega
              | some x =>
              obtain ⟨bb, off, sp⟩ := x
              obtain ⟨rfl, hlt, hkids⟩ := KidsE.below (KidsE.below HX.out HB2.out) hbl _ rfl hne
              simp only at hlt hkids
              obtain ⟨kc0, hkc, hkv⟩ := ExpsAt.get hkids k hkl
              obtain ⟨kop, ktext, ksa, ksn, ksc, rfl, m0, m1, m2⟩ := exp_at hkv hkc
              have hIH := HIH.out kids[k] (by have := bulkX_kid hkl; omega) (ShortX.kid hkl HS.out.2.2)
              have HTk := Lib.hid (rightXs_take kids k hkl)
              have HBk := Lib.hid (fun h => rightXs_bad hkl h)
              have hT3 := HT.out.below (HB2.out.trans (hbl.mono HB2.out.size))
              have hbA : Below wr.heap.size wr (wr.alloc (.cells #[.string kop, .string ktext, .slice ksa ksn ksc] 30)) := (Below.refl _ _).alloc (Nat.le_refl _) _
              have hC := hIH _ _ (hT3.below hbA) (ExpAt.below hbA _ _ hkv)
              have HBA := Lib.hid (hbl.trans (hbA.mono hbl.size))
              clear hIH hkv hkc hkids hT3 hbA hbl
              simp only [vX] at hC
              generalize rightX kids[k] = rb at *
              go_wp2_with fail
              refine hC.mono ?_
              rintro _ w4 ⟨rfl, hb4⟩
              have HB4 := Lib.hid (HBA.out.trans (hb4.mono HBA.out.size))
              clear hC hb4
              cases rb with
              | false =>
                go_wp2
                go_ret
                exact ⟨by simp [HBk.out trivial], HB2.out.trans (HB4.out.mono HB2.out.size)⟩
              | true =>
                go_wp2_with fail
                go_roundw
                case rel => exact ⟨k + 1, hkl, by go_num, by rw [HTk.out, HA.out]; rfl, HB4.out⟩
                case measure => simp [intOf]; omega
            · obtain rfl : k = kids.length := by omega
              clear hbl
              go_wp2
              go_ret
              have h5 := HA.out
              rw [List.take_length] at h5
              exact ⟨by simp [h5], HB2.out.trans (HBL.out.mono HB2.out.size)⟩
    · have hct : (decide (kn = -1) || decide (kn = (kids.length : Int))) = false := by simpa using hcount
      rw [hct, Bool.false_and, Bool.false_and]
      have h1 : (kn != (kids.length : Int)) = true := by rw [bne_iff_ne]; intro h; exact hcount (.inr h)
      have h2 : (kn != -1) = true := by rw [bne_iff_ne]; intro h; exact hcount (.inl h)
      go_enter Tryz.func20, Tryz.ntmps20
      go_wp2_with fail
      refine (hK _).mono ?_
      rintro _ _ ⟨rfl, rfl⟩
      clear hcount hct
      go_wp2
      go_ret
      exact ⟨rfl, HB.out⟩
theorem RightX_upto (hA : AloneC) (n : Nat) : ∀ (t : Exp), t.bulk ≤ n → ShortX t → ∀ (w : World) (cs : List Value), LexT w → ExpAt w t cs → Calls Tryz.prog 20 #[vX cs] w fun e w' => e = .returned (.bool (rightX t)) ∧ Below w.heap.size w w' := by
  induction n with
  | zero => intro t h; have := bulkX_pos t; omega
  | succ n IH =>
    intro t h hs w cs hT hv
    cases t
    exact RightX_step hA n IH _ _ _ h hs w cs hT hv
end Go.Proofs.YtjlikcfabekhlaaGreatDoor

/- Is a text one token of a kind: the reference's answer (layer 12). -/
namespace Go.Proofs.YtjlikcfabekhlaaGreatDoor
open Go.RowKit Go.Tab

def alone3 (l : List Tok) (z k : Int) (s : ByteArray) : Bool := match l with
  | [t] => decide (z = 0) && (decide (t.kind = k) && decide (t.text = s))
  | _ => false
theorem aloneB_3 (s : ByteArray) (k : Int) : aloneB s k = alone3 (lexL s.data.toList 0).1 (lexL s.data.toList 0).2.2 k s := by
  unfold aloneB alone3
  generalize lexL s.data.toList 0 = x
  obtain ⟨l, p, z⟩ := x
  rcases l with _ | ⟨t, _ | ⟨u, r⟩⟩ <;> rfl
set_option maxHeartbeats 4000000 in
set_option maxRecDepth 100000 in
theorem rAlone_any (s : ByteArray) (k : Int) (w : World) (hs : s.size ≤ 1000) :
    Calls Tryz.prog 43 #[.string s, .int .i64 k] w fun e w' => e = .returned (.bool (aloneB s k)) ∧ Below w.heap.size w w' := by
  have hP := rLex_any s w (by omega)
  rw [aloneB_3]
  obtain ⟨⟨l, p, z⟩, hx⟩ : ∃ x, lexL s.data.toList 0 = x := ⟨_, rfl⟩
  rw [hx] at hP ⊢
  clear hx
  simp only at hP ⊢
  obtain ⟨bb, hbb⟩ : ∃ b, alone3 l z k s = b := ⟨_, rfl⟩
  rw [hbb]
  have HBB := Lib.hid hbb
  clear hbb
  go_enter Tryz.func43, Tryz.ntmps43
  go_wp2_with fail
  refine hP.mono ?_
  rintro _ w2 ⟨v, rfl, hown, hb2⟩
  obtain ⟨va, vc, rfl⟩ := hown.len
  have hb3 : Below w2.heap.size w2 (w2.alloc (.cells #[.slice va l.length vc, .int .i64 p, .int .i64 z] 26)) := (Below.refl _ _).alloc (Nat.le_refl _) _
  have HB := Lib.hid (hb2.trans (hb3.mono hb2.size))
  have hT := hown.toks
  clear hP hb2 hb3
  by_cases hz : z = 0
  · subst hz
    rcases l with _ | ⟨t, _ | ⟨u, r⟩⟩
    · have hl0 : (([] : List Tok).length : Int) = 0 := rfl
      clear hown hT
      go_wp2
      go_ret
      exact ⟨by rw [← HBB.out]; simp [alone3], HB.out⟩
    · obtain ⟨b, off, rfl, hlt, c0, c1, c2⟩ := ToksAt.get hT (j := 0) (by simp)
      simp only [Nat.zero_mul, Nat.add_zero, List.getElem_cons_zero] at c0 c1 c2
      clear hown hT
      by_cases hk : t.kind = k
      · have hkb : (t.kind == k) = true := by rw [beq_iff_eq]; exact hk
        by_cases ht : t.text = s
        · subst ht
          go_wp2
          go_ret
          exact ⟨by rw [← HBB.out]; simp [alone3, hk], HB.out⟩
        · have htb := str_ne ht
          go_wp2
          go_ret
          exact ⟨by rw [← HBB.out]; simp [alone3, ht], HB.out⟩
      · have hkb : (t.kind == k) = false := by rw [beq_eq_false_iff_ne]; exact hk
        go_wp2
        go_ret
        exact ⟨by rw [← HBB.out]; simp [alone3, hk], HB.out⟩
    · have hl2 : (((t :: u :: r).length : Int) == 1) = false := by rw [beq_eq_false_iff_ne]; simp only [List.length_cons]; omega
      clear hown hT
      generalize (t :: u :: r).length = nl at *
      go_wp2
      go_ret
      exact ⟨by rw [← HBB.out]; simp [alone3], HB.out⟩
  · have hzb : (z == 0) = false := by rw [beq_eq_false_iff_ne]; exact hz
    have HZ := Lib.hid hz
    clear hz hown hT
    go_wp2
    go_ret
    refine ⟨?_, HB.out⟩
    rw [← HBB.out]
    rcases l with _ | ⟨t, _ | ⟨u, r⟩⟩ <;> simp [alone3, HZ.out]
end Go.Proofs.YtjlikcfabekhlaaGreatDoor

/- Plain law: a text whose first token has all its bytes is that token alone (layer 11). -/
namespace Go.Proofs.YtjlikcfabekhlaaGreatDoor

theorem first_all : ∀ (l : Bs) (p : Nat) (t : Tok) (r : List Tok), (lexL l p).1 = t :: r → t.text.size ≤ l.length ∧ (t.text.size = l.length → t.text = strL l ∧ lexL l p = ([t], -1, 0))
  | [], p, t, r, h => by rw [lexL_nil] at h; cases h
  | c :: l, p, t, r, h => by
    cases hb : blankB c with
    | true =>
      rw [lexL_blank hb] at h
      have := (first_all l (p + 1) t r h).1
      exact ⟨by simp only [List.length_cons]; omega, fun e => by simp only [List.length_cons] at e; omega⟩
    | false =>
      cases ho : one1 (c :: l) with
      | bad o e => rw [lexL_bad hb ho] at h; cases h
      | tok k sz =>
        have hs := one1_size ho
        rw [lexL_tok hb ho] at h ⊢
        simp only [List.cons.injEq] at h
        obtain ⟨rfl, hr⟩ := h
        have hz : (strL ((c :: l).take sz)).size = sz := by rw [size_list, strL_list, List.length_take]; omega
        simp only [hz]
        refine ⟨hs.2, fun e => ?_⟩
        rw [e, List.take_length, List.drop_length, lexL_nil]
        exact ⟨rfl, rfl⟩
/-- Asked of the first token alone. -/
theorem alone_first (s : ByteArray) (k : Int) : aloneB s k = match (lexL s.data.toList 0).1 with
    | [] => false
    | t :: _ => decide (t.kind = k) && decide (t.text.size = s.size) := by
  unfold aloneB
  cases h : (lexL s.data.toList 0).1 with
  | nil =>
    have : lexL s.data.toList 0 = ([], (lexL s.data.toList 0).2) := by rw [← h]
    rw [this]
  | cons t r =>
    have hf := first_all s.data.toList 0 t r h
    rw [← size_list] at hf
    by_cases hz : t.text.size = s.size
    · obtain ⟨h1, h2⟩ := hf.2 hz
      have h3 : strL s.data.toList = s := (strL_of s).symm
      rw [h2]
      simp [h1, h3]
    · have hne : t.text ≠ s := fun e => hz (by rw [e])
      have : lexL s.data.toList 0 = (t :: r, (lexL s.data.toList 0).2) := by rw [← h]
      rw [this]
      cases r with
      | nil => simp [hz, hne]
      | cons u r => simp [hz]
end Go.Proofs.YtjlikcfabekhlaaGreatDoor

/- Laws of a walk within a fence: scopes; a yield at any depth; worlds that have grown. -/
namespace Go.Proofs.YtjlikcfabekhlaaGreatDoor
open Go.RowKit Go.Tab Go.Shelf

section
variable {P : Program} {b : Frame} {a : Act} {k : List Item} {cs : List Frame} {w : World} {Q : Exit → Act → World → Prop} {F : Fence} {n : Nat}
theorem stepR_scope {c : Code} : step P (lone (b.atR a (.code (.scope c) :: k)) cs w) = .next (lone (b.atR a (.code c :: .inScope c :: k)) cs w) :=
  step_lone_go (by simp [stepG, stepG.exec, Frame.atR])
theorem stepR_inScope {c : Code} : step P (lone (b.atR a (.inScope c :: k)) cs w) = .next (lone (b.atR a k) cs w) :=
  step_lone_go (by simp [stepG, stepG.exec, Frame.atR])
/-- A scope through which the run goes without a goto, within a fence. -/
theorem wpIn_scope_straight {c : Code} (h : c.wpIn F n P (Exit.noGoto Q) a w) : (Code.scope c).wpIn F n P Q a w := by
  intro b k cs hro hb hr
  have h0 : (lone (b.atR a (.code (.scope c) :: k)) cs w).fenced P F := fenced_calm hb hr rfl
  obtain ⟨e, a₁, w₁, hq, harr⟩ := h b (.inScope c :: k) cs hro hb hr
  cases e with
  | normal => exact ⟨.normal, a₁, w₁, hq, .head h0 stepR_scope (StepsIn.trans harr (.one (fenced_calm hb hr rfl) stepR_inScope))⟩
  | exit id =>
    have hx : exitTo id (.inScope c :: k) = exitTo id k := by simp [exitTo]
    exact ⟨.exit id, a₁, w₁, hq, fun k' hk => .head h0 stepR_scope (harr.1 k' (by rw [hx]; exact hk)),
      fun hr' hk => let ⟨k₁, h1, h2⟩ := harr.2 hr' (by rw [hx]; exact hk); ⟨k₁, h1, .head h0 stepR_scope h2⟩⟩
  | goto l => exact hq.elim
  | ret => exact ⟨_, a₁, w₁, hq, .of_steps (.one h0 stepR_scope) harr⟩
  | panic ch => exact ⟨_, a₁, w₁, hq, .of_steps (.one h0 stepR_scope) harr⟩
  | outgrown => exact ⟨_, a₁, w₁, hq, .of_steps (.one h0 stepR_scope) harr⟩
end
theorem roundIn_any {m m' : Nat} {P : Program} {l : Nat} {f : FuncId} {tmps : Array Value} {assign body : Code} {w : World} {R : Ending → World → Prop}
    (h : RoundIn Fence.wide m P l f tmps assign body w R) : RoundIn Fence.wide m' P l f tmps assign body w R := ⟨h.1, fun c cs _ => h.2 c cs (room_wide _)⟩
theorem yieldAt_any {m : Nat} (m' : Nat) {P : Program} {l : Nat} {args : Array Value} {W : World} {R : Ending → World → Prop} (h : YieldAt Fence.wide m P l args W R) : YieldAt Fence.wide m' P l args W R := by
  obtain ⟨fn, tmps, assign, body, hy, hR⟩ := h
  exact ⟨fn, tmps, assign, body, hy, roundIn_any hR⟩
theorem wideN {k : Nat} : Fence.wide.depth.isSome = true → 1 ≤ k := fun h => by simp [Fence.wide] at h
theorem grown_none {w w' : World} (h : Below w.heap.size w w') : w.grownBy w' none := ⟨h.os, h.tape, h.output, h.size, fun k hk _ => h.block k hk⟩
theorem cell_isCells {w : World} {b off : Nat} {u : Value} (h : w.cell? ⟨b, off, none⟩ = some u) : ∃ o, w.heap[b]? = some o ∧ o.isCells = true := by
  unfold World.cell? at h
  cases ho : w.heap[b]? with
  | none => simp [ho] at h
  | some o =>
    refine ⟨o, rfl, ?_⟩
    cases o <;> simp [ho] at h ⊢
    rfl
/-- All blocks of cells lie as they lay. -/
def KpA (A B : World) : Prop := A.heap.size ≤ B.heap.size ∧ ∀ (k : Nat) (o : Obj), A.heap[k]? = some o → o.isCells = true → B.heap[k]? = some o
theorem KpA.grown {A B : World} {row : Option Nat} (hg : A.grownBy B row) (hr : ∀ r, row = some r → ∃ o : Obj, A.heap[r]? = some o ∧ o.isCells = false) : KpA A B :=
  ⟨hg.size, fun k o ho hc => (hg.block k (Array.getElem?_eq_some_iff.1 ho).1 (fun e => by
    obtain ⟨q, hq, hqc⟩ := hr k e.symm
    rw [ho] at hq; cases hq; rw [hc] at hqc; cases hqc)).trans ho⟩
theorem KpA.cell {A B : World} (h : KpA A B) {b off : Nat} {u : Value} (hc : A.cell? ⟨b, off, none⟩ = some u) : B.cell? ⟨b, off, none⟩ = some u := by
  obtain ⟨o, ho, hoc⟩ := cell_isCells hc
  exact (cell_same ((h.2 b o ho hoc).trans ho.symm) off).trans hc
theorem KpA.cells {A B : World} (h : KpA A B) {g : Nat} {cs : Array Value} {T : TypeId} (hc : Cells A g cs T) : Cells B g cs T := h.2 g _ hc rfl
theorem KpA.owns {A B : World} (h : KpA A B) {base : Nat} {e : TypeId} {size : Nat} {v : Value} {n : Nat} {xs : List Value} (ho : A.ownsRow base e size v n xs) : B.ownsRow base e size v n xs := by
  obtain ⟨h1, h2⟩ := ho
  refine ⟨h1, ?_⟩
  rcases h2 with h2 | ⟨g, cap, cur, hv, hg, h3, r⟩
  · exact .inl h2
  · exact .inr ⟨g, cap, cur, hv, hg, h.2 g _ h3 rfl, r⟩
end Go.Proofs.YtjlikcfabekhlaaGreatDoor

/- The lexer's walk under any function that takes its tokens, within a fence (layer 11). -/
namespace Go.Proofs.YtjlikcfabekhlaaGreatDoor
open Go.RowKit Go.Tab Go.Shelf
attribute [local go_sem] Oper.semAt_some

/-- All that lay below B lies as it lay. -/
def KpB (B : Nat) (w w' : World) : Prop := w.heap.size ≤ w'.heap.size ∧ ∀ k, k < B → w'.heap[k]? = w.heap[k]?
theorem KpB.refl (B : Nat) (w : World) : KpB B w w := ⟨Nat.le_refl _, fun _ _ => rfl⟩
theorem KpB.trans {B : Nat} {A C D : World} (h : KpB B A C) (h2 : KpB B C D) : KpB B A D := ⟨Nat.le_trans h.1 h2.1, fun k hk => (h2.2 k hk).trans (h.2 k hk)⟩
theorem KpB.below {B : Nat} {w w' : World} (h : Below B w w') : KpB B w w' := ⟨h.size, h.block⟩
theorem KpB.put {B : Nat} {w0 : World} (hB : B ≤ w0.heap.size) (W : World) (l : Nat) (o o' : Obj) (hl : w0.heap.size ≤ l) (_ : W.heap[l]? = some o) (_ : o.isCells = false) (_ : o.isWalk = false) : KpB B W (W.putObj l o') :=
  ⟨(grownBy_putObj' W l o').size, fun k hk => World.putObj_heap_other (by omega)⟩
theorem KpB.cell {B : Nat} {w w' : World} (h : KpB B w w') {b : Nat} (hb : b < B) (off : Nat) : w'.cell? ⟨b, off, none⟩ = w.cell? ⟨b, off, none⟩ := cell_same (h.2 b hb) off
theorem LexT.keptB {w0 W : World} (h : LexT w0) (hk : KpB w0.heap.size w0 W) : LexT W :=
  ⟨fun j hj => (hk.cell (World.block_lt_of_cell? w0 _ (h.utf j hj)) j).trans (h.utf j hj), fun j hj => (hk.cell (World.block_lt_of_cell? w0 _ (h.steps j hj)) j).trans (h.steps j hj), fun j hj => (hk.cell (World.block_lt_of_cell? w0 _ (h.dbl j hj)) j).trans (h.dbl j hj), by
    obtain ⟨m, hm⟩ := h.mlen
    exact ⟨m, (hk.cell (World.block_lt_of_cell? w0 _ hm) 0).trans hm⟩⟩

set_option maxHeartbeats 4000000 in
set_option maxRecDepth 100000 in
theorem walkY_in (n : Nat) (l0 : Nat) (s : ByteArray) (hs : s.size ≤ 100000) (w0 : World) (hT0 : LexT w0) (J Jx : List Tok → World → Prop)
    (hJb : ∀ p W W', J p W → Below W.heap.size W W' → J p W')
    (hY : ∀ (m : Nat) (pre : List Tok) (x : Tok) W, J pre W → KpB w0.heap.size w0 W → pre ++ [x] <+: (lexL s.data.toList 0).1 → YieldAt Fence.wide m Tryz.prog l0 #[tokV x] W fun e W' => (e = .returned (.bool true) ∧ J (pre ++ [x]) W' ∧ KpB w0.heap.size W W') ∨ (e = .returned (.bool false) ∧ Jx (pre ++ [x]) W'))
    (W : World) (hW : KpB w0.heap.size w0 W) (h0 : J [] W) :
    CallsIn Fence.wide n Tryz.prog 60 #[.string s, .func (.yield l0) #[] #[]] W fun e W' => (∃ v, e = .returned v) ∧ ((∃ ys, ys = (lexL s.data.toList 0).1 ∧ J ys W') ∨ (∃ pre, pre <+: (lexL s.data.toList 0).1 ∧ Jx pre W')) := by
  refine callsIn_of_wp Tryz.func60 rfl trivial ?_ rfl
  simp only [Tryz.ntmps60, List.size_toArray, List.length_cons, List.length_nil, Nat.reduceAdd, Nat.reduceSub, Array.replicate_succ, Array.replicate_zero, List.push_toArray, List.append_toArray, List.nil_append, List.cons_append]
  gi_wp2
  refine wpIn_scope_straight ?_
  gi_wp2
  refine wpIn_label ?_
  gi_wp2
  gi_loopw [4, 5, 6, 7, 8, 9, 10] (fun a e p _ _ _ _ wr => ∃ (k : Nat) (pre : List Tok), a = .int .i64 0 ∧ e = .int .i64 0 ∧ p = .int .i64 (k : Int) ∧ k ≤ s.size ∧ LexRest s.data.toList k pre ∧ J pre wr ∧ KpB w0.heap.size w0 wr) (fun _ _ p _ _ _ _ _ => s.size - (intOf p).toNat)
  case atStart => exact ⟨0, [], rfl, rfl, rfl, Nat.zero_le _, LexRest.zero _, h0, hW⟩
  case round =>
    obtain ⟨k, pre, rfl, rfl, rfl, hk, hR, hJ, hb⟩ := hrel
    by_cases hlt : k < s.size
    · have hB := has_any ⟨#[32, 9, 13]⟩ (s[k]'hlt)
      rw [show (⟨#[32, 9, 13]⟩ : ByteArray).data.toList.contains (s[k]'hlt) = blankB (s[k]'hlt) from rfl] at hB
      have hkl : k < s.data.toList.length := by rw [← size_list]; exact hlt
      have hRl := hR.len
      rw [← size_list] at hRl
      have HR := Lib.hid hR
      clear hR
      cases hb1 : blankB (s[k]'hlt) with
      | true =>
        rw [hb1] at hB
        have HR2 := Lib.hid (HR.out.blank hkl hb1)
        clear HR hb1 hY
        gi_wp2
        refine ⟨trivial, wideN, (callsIn_wide.2 (hB _)).mono ?_⟩
        rintro _ _ ⟨⟨i, rfl, hi⟩, rfl⟩
        gi_wp2
        refine ⟨⟨k + 1, pre, rfl, rfl, by go_num, by omega, HR2.out, hJ, hb⟩, ?_⟩
        simp [intOf]; omega
      | false =>
        rw [hb1] at hB
        have hN := fun W h => next_any (s.extract k s.size) W h (by rw [ByteArray.size_extract]; omega) (by rw [ByteArray.size_extract]; omega)
        rw [ext_drop] at hN
        have hHB := Lib.hid hb1
        cases ho : one1 (s.data.toList.drop k) with
        | bad o e =>
          have HD := Lib.hid (HR.out.bad hkl hb1 ho)
          have hne : (e != 0) = true := by simpa using one1_err ho
          have hof := one1_off ho
          rw [List.length_drop, ← size_list] at hof
          rw [ho] at hN
          simp only [lrV] at hN
          clear HR hb1 ho hY
          gi_wp2
          refine ⟨trivial, wideN, (callsIn_wide.2 (hB _)).mono ?_⟩
          rintro _ _ ⟨⟨i, rfl, hi⟩, rfl⟩
          gi_wp2
          refine ⟨trivial, wideN, (callsIn_wide.2 (hN _ (hT0.keptB hb))).mono ?_⟩
          rintro _ w2 ⟨rfl, hb2⟩
          have hJ2 := hJb _ _ _ hJ hb2
          clear hJ
          gi_wp2
          rw [Exit.noGoto_ret]
          refine bodyPost_ret (v := .tuple #[.int .i64 ((k : Int) + o), .int .i64 e]) (by simp [results, Tryz.results60, go_sem]) rfl ?_
          exact ⟨⟨_, rfl⟩, .inl ⟨_, by rw [HD.out], hJ2⟩⟩
        | tok kd sz =>
          have HD := Lib.hid (HR.out.tok hkl hb1 ho)
          have hEx : strL ((s.data.toList.drop k).take sz) = s.extract k (k + sz) := str_ext (by rw [ext_list, strL_list, List.drop_take]; congr 1; omega)
          have hsz := one1_size ho
          rw [List.length_drop, ← size_list] at hsz
          rw [ho] at hN
          simp only [lrV] at hN
          rw [hEx] at HD
          have hpre : pre ++ [⟨(kd : Nat), s.extract k (k + sz), (k : Nat)⟩] <+: (lexL s.data.toList 0).1 := by
            have := HD.out
            unfold LexRest at this
            rw [this]
            exact List.prefix_append _ _
          clear HR hb1 ho
          have hYx := fun w2 hJ2 hk2 => hY (n - 1) pre ⟨(kd : Nat), s.extract k (k + sz), (k : Nat)⟩ w2 hJ2 hk2 hpre
          have HP := Lib.hid hpre
          clear hY hpre
          simp only [tokV] at hYx
          gi_wp2
          refine ⟨trivial, wideN, (callsIn_wide.2 (hB _)).mono ?_⟩
          rintro _ _ ⟨⟨i, rfl, hi⟩, rfl⟩
          gi_wp2
          refine ⟨trivial, wideN, (callsIn_wide.2 (hN _ (hT0.keptB hb))).mono ?_⟩
          rintro _ w2 ⟨rfl, hb2⟩
          have hJ2 := hJb _ _ _ hJ hb2
          have hk2 := hb.trans (KpB.below (hb2.mono hb.1))
          obtain ⟨fn, tmps, assign, body, hy, hRR⟩ := hYx _ hJ2 hk2
          clear hYx
          gi_wp2
          refine ⟨wideN, hRR.mono ?_⟩
          rintro e W3 (⟨rfl, hJ3, hk3⟩ | ⟨rfl, hJx3⟩)
          · gi_wp2
            refine ⟨⟨k + sz, _, rfl, rfl, by go_num, by omega, HD.out, hJ3, hk2.trans hk3⟩, ?_⟩
            simp [intOf]; omega
          · gi_wp2
            rw [Exit.noGoto_ret]
            refine bodyPost_ret (v := .tuple #[.int .i64 0, .int .i64 0]) (by simp [results, Tryz.results60, go_sem]) rfl ?_
            exact ⟨⟨_, rfl⟩, .inr ⟨_, HP.out, hJx3⟩⟩
    · obtain rfl : k = s.size := by omega
      have HD := Lib.hid (hR.done (size_list s))
      clear hR hY
      gi_wp2
      rw [Exit.noGoto_ret]
      refine bodyPost_ret (v := .tuple #[.int .i64 0, .int .i64 0]) (by simp [results, Tryz.results60, go_sem]) rfl ?_
      exact ⟨⟨_, rfl⟩, .inl ⟨_, by rw [HD.out], hJ⟩⟩

set_option maxHeartbeats 4000000 in
set_option maxRecDepth 100000 in
theorem lAll_any (s : ByteArray) (w : World) :
    Calls Tryz.prog 100 #[.string s] w fun e w' => e = .returned (.func (.func 133) #[] #[.pointer (some ⟨w.heap.size, 0, none⟩)]) ∧ w' = w.alloc (.cells #[.string s] 9) := by
  go_enter Tryz.func100, Tryz.ntmps100
  go_wp2
  go_ret
  exact ⟨rfl, rfl⟩
set_option maxHeartbeats 4000000 in
set_option maxRecDepth 100000 in
theorem lAll1_in (n : Nat) (l0 Bn : Nat) (s : ByteArray) (hs : s.size ≤ 100000) (w0 : World) (hBn : w0.cell? ⟨Bn, 0, none⟩ = some (.string s)) (hT0 : LexT w0) (J Jx : List Tok → World → Prop)
    (hJb : ∀ p W W', J p W → Below W.heap.size W W' → J p W')
    (hY : ∀ (m : Nat) (pre : List Tok) (x : Tok) W, J pre W → KpB w0.heap.size w0 W → pre ++ [x] <+: (lexL s.data.toList 0).1 → YieldAt Fence.wide m Tryz.prog l0 #[tokV x] W fun e W' => (e = .returned (.bool true) ∧ J (pre ++ [x]) W' ∧ KpB w0.heap.size W W') ∨ (e = .returned (.bool false) ∧ Jx (pre ++ [x]) W'))
    (W : World) (hW : KpB w0.heap.size w0 W) (h0 : J [] W) :
    CallsIn Fence.wide n Tryz.prog 133 #[.func (.yield l0) #[] #[], .pointer (some ⟨Bn, 0, none⟩)] W fun e W' => (∃ v, e = .returned v) ∧ ((∃ ys, ys = (lexL s.data.toList 0).1 ∧ J ys W') ∨ (∃ pre, pre <+: (lexL s.data.toList 0).1 ∧ Jx pre W')) := by
  have hc := (hW.cell (World.block_lt_of_cell? w0 _ hBn) 0).trans hBn
  have hw := walkY_in (n - 1) l0 s hs w0 hT0 J Jx hJb hY W hW h0
  clear hY hJb h0
  refine callsIn_of_wp Tryz.func133 rfl trivial ?_ rfl
  simp only [Tryz.ntmps133, List.size_toArray, List.length_cons, List.length_nil, Nat.reduceAdd, Nat.reduceSub, Array.replicate_succ, Array.replicate_zero, List.push_toArray, List.append_toArray, List.nil_append, List.cons_append]
  gi_wp2
  refine ⟨trivial, wideN, hw.mono ?_⟩
  rintro e w2 ⟨⟨v, rfl⟩, hx⟩
  gi_wp2
  refine bodyPost_end (results_none rfl _ _ _) rfl ?_
  exact ⟨⟨_, rfl⟩, hx⟩
theorem lAll_stops (n Bn : Nat) (s : ByteArray) (hs : s.size ≤ 100000) (w : World) (hc : w.cell? ⟨Bn, 0, none⟩ = some (.string s)) (hT : LexT w) :
    SeqStopsK Fence.wide n Tryz.prog 133 #[.pointer (some ⟨Bn, 0, none⟩)] (fun x : Tok => #[tokV x]) (KpB w.heap.size) (fun ys => ys = (lexL s.data.toList 0).1) (fun pre => pre <+: (lexL s.data.toList 0).1) (lexL s.data.toList 0).1.length w := fun l0 J Jx W hW aJ _ hY h0 =>
  lAll1_in n l0 Bn s hs w hc hT J Jx (fun p A B hs hbl => aJ p A B none hs (grown_none hbl) (fun r e => by cases e))
    (fun m pre x W1 hj _ hp => yieldAt_any m (hY pre x W1 hj (by have := hp.length_le; simp at this; omega))) W (KpB.below hW) h0
end Go.Proofs.YtjlikcfabekhlaaGreatDoor

/- A range over an iterator whose rounds may count on what the iterator shows of each thing that it hands on. -/
namespace Go.Proofs.YtjlikcfabekhlaaGreatDoor
open Go.RowKit Go.Tab Go.Shelf

section
variable {F : Fence} {n : Nat} {P : Program}
/-- The iterator's word: it comes to its end, or a round has stopped it; at each round it shows Gd of what it hands on. -/
def SeqGood {α : Type} (F : Fence) (n : Nat) (P : Program) (g : Nat) (lb : Array Value) (encs : α → Array Value) (Kp : World → World → Prop) (Gd : α → World → Prop) (S Sp : List α → Prop) (N : Nat) (w : World) : Prop :=
  ∀ (l : Nat) (J Jx : List α → World → Prop) (W : World), Below w.heap.size w W → AbidesFrom W.heap.size J → AbidesFrom W.heap.size Jx →
    (∀ pre x W1, J pre W1 → Gd x W1 → pre.length < N → YieldAt F (n - 1) P l (encs x) W1 fun e W' =>
      (e = .returned (.bool true) ∧ J (pre ++ [x]) W' ∧ Kp W1 W') ∨ (e = .returned (.bool false) ∧ Jx (pre ++ [x]) W')) →
    J [] W →
    CallsIn F n P g (#[.func (.yield l) #[] #[]] ++ lb) W fun e W' => (∃ v, e = .returned v) ∧ ((∃ xs, S xs ∧ J xs W') ∨ (∃ pre, Sp pre ∧ Jx pre W'))

theorem wpIn_rangeFunc_good {α : Type} {g : Operand} {ps : Array Tmp} {assign body : Code} {Q : Exit → Act → World → Prop} {a : Act} {w : World}
    (hro : F.round = none) (h1 : 1 ≤ n) {gf : Nat} {lb : Array Value} (hg : a.eval g = .func (.func gf) #[] lb) (hFg : F.fn gf) (eg : ∀ args w, (callFunc gf args).run P w = .ok (.enter gf args) w)
    {encs : α → Array Value} {Kp : World → World → Prop} {Gd : α → World → Prop} {S Sp : List α → Prop} {N : Nat} {w0 : World} (hseq : SeqGood F (n - 1) P gf lb encs Kp Gd S Sp N w0)
    (hKt : ∀ {A B C : World}, Kp A B → Kp B C → Kp A C) (hKb : ∀ (W : World) (l : Nat) (o o' : Obj), w.heap.size ≤ l → W.heap[l]? = some o → o.isCells = false → o.isWalk = false → Kp W (W.putObj l o')) (hb0 : Below w0.heap.size w0 w) (hps : ∀ x, (encs x).size = ps.size)
    (I : List α → World → Prop) (Ix : Code → List α → World → Prop) (hI : OwnFrom w.heap.size I) (hIx : ∀ c, OwnFrom w.heap.size (Ix c)) (h0 : I [] w) (Ax : α → Act → World → Prop) (hAx : ∀ x a', OwnFrom w.heap.size (fun (_ : Unit) W => Ax x a' W))
    (hassign : ∀ (l : Nat) (pre : List α) (x : α) (W : World) (K : Act → World → Prop), I pre W → Gd x W → (∀ a' W', KeepsFrom w.heap.size W W' → Kp W W' → I pre W' → Ax x a' W' → K a' W') →
      assign.wpIn (F.inRound l) (n - 1 - 1) P (Exit.then K (fun _ _ _ => False)) { tmps := (ps.zip (encs x)).foldl (fun t (p, v) => t.setIfInBounds p v) a.tmps, defers := [] } W)
    (hbody : ∀ (l : Nat) (pre : List α) (x : α) (a' : Act) (W : World), w.heap.size ≤ l → I pre W → Ax x a' W → pre.length < N → body.wpIn (F.inRound l) (n - 1 - 1) P (ownPostG w.heap.size Kp I Ix (pre ++ [x]) W) a' W)
    (hdone : ∀ (D : Nat) (xs : List α) (W : World), w.heap.size ≤ D → S xs → I xs W → W.heap[D]? = some (.deferred (some [])) → Q .normal { a with defers := { target := .collected D, args := #[] } :: a.defers } W)
    (hstop : ∀ (D : Nat) (c : Code) (pre : List α) (W : World), w.heap.size ≤ D → Sp pre → Ix c pre W → W.heap[D]? = some (.deferred (some [])) → c.wpIn F n P Q { a with defers := { target := .collected D, args := #[] } :: a.defers } W) :
    (Code.rangeFunc g ps assign body).wpIn F n P Q a w := by
  refine wpIn_rangeFunc ?_
  intro fn hfn
  rw [hro]
  -- the loop's record at its two places, and where they lie
  let rec' : LoopState → Option Code → Loop := fun st pe => { state := st, pending := pe, fn, tmps := a.tmps, params := ps, assign, body, defers := w.heap.size }
  obtain ⟨R, hR⟩ : ∃ R : LoopState → Option Code → Loop, R = rec' := ⟨_, rfl⟩
  obtain ⟨V, hV⟩ : ∃ V, V = (w.alloc (.deferred (some []))).alloc (.loop (R .ready none)) := ⟨_, rfl⟩
  have vL : V.heap[w.heap.size + 1]? = some (.loop (R .ready none)) := by
    have h := World.alloc_heap_new (w.alloc (.deferred (some []))) (.loop (R .ready none))
    rw [World.size_alloc] at h
    rw [hV]; exact h
  have vD : V.heap[w.heap.size]? = some (.deferred (some [])) := by
    rw [hV]; exact (Below.heap_alloc _ _ _ (by simp)).trans (World.alloc_heap_new w _)
  have vI : I [] V := by rw [hV]; exact hI.alloc _ (hI.alloc _ h0)
  have vB : Below w0.heap.size w0 V := by
    rw [hV]; exact hb0.trans ((((Below.refl _ w).alloc (Nat.le_refl _) _).alloc (by simp) _).mono hb0.size)
  have vz : V.heap.size = w.heap.size + 2 := by rw [hV]; simp
  refine ⟨w.heap.size + 1, [{ target := .collected w.heap.size, args := #[] }], V, { target := .fn (.func gf) lb, args := #[.func (.yield (w.heap.size + 1)) #[] #[]] }, V, gf,
    #[.func (.yield (w.heap.size + 1)) #[] #[]] ++ lb, V, ?_, ?_, ?_, ?_, fun _ => h1, ?_⟩
  · rw [hV, hR]; exact run_enterLoop_outer _ _ _ _ _
  · simp only [resolve, hg]
    simp [go_sem]
  · intro f' hf'; simp [Target.leads] at hf'; subst hf'; exact hFg
  · simp [invoke, go_sem, eg]
  have far : ∀ {A : World} {row : Option Nat}, (∀ r, row = some r → V.heap.size ≤ r ∧ ∃ o : Obj, A.heap[r]? = some o ∧ o.isWalk = true) → (∀ r, row = some r → w.heap.size ≤ r ∧ ∃ o : Obj, A.heap[r]? = some o ∧ o.isCells = false) :=
    fun hr r e => by obtain ⟨hB, o, ho, hw⟩ := hr r e; exact ⟨by omega, o, ho, Obj.not_cells_of_walk hw⟩
  let J : List α → World → Prop := fun pre W => I pre W ∧ W.heap[w.heap.size + 1]? = some (.loop (R .ready none)) ∧ W.heap[w.heap.size]? = some (.deferred (some []))
  let Jx : List α → World → Prop := fun pre W => ∃ c, Ix c pre W ∧ W.heap[w.heap.size + 1]? = some (.loop (R .done (some c))) ∧ W.heap[w.heap.size]? = some (.deferred (some []))
  have aJ : AbidesFrom V.heap.size J := fun s A B row hs hg' hr =>
    ⟨hI s A B row hs.1 hg' (far hr), (grownBy_keeps hg' (fun r e => (hr r e).2) hs.2.1 rfl).trans hs.2.1, (grownBy_keeps hg' (fun r e => (hr r e).2) hs.2.2 rfl).trans hs.2.2⟩
  have aJx : AbidesFrom V.heap.size Jx := fun s A B row hs hg' hr => by
    obtain ⟨c, hc, hl, hk⟩ := hs
    exact ⟨c, hIx c s A B row hc hg' (far hr), (grownBy_keeps hg' (fun r e => (hr r e).2) hl rfl).trans hl, (grownBy_keeps hg' (fun r e => (hr r e).2) hk rfl).trans hk⟩
  refine (hseq (w.heap.size + 1) J Jx V vB aJ aJx ?_ ⟨vI, vL, vD⟩).mono ?_
  · rintro pre x W ⟨hi, hl, hk⟩ hgd hlen
    have hy := run_yield (P := P) (args := encs x) hl (by rw [hR]; exact hps x)
    rw [hR] at hy
    refine ⟨fn, _, assign, body, hy, roundIn_of_wpIn hfn (hassign _ pre x W _ hi hgd ?_)⟩
    intro a' U hkf hkp hiU haU
    have uL := (hkf.same _ _ (by omega) hl rfl)
    have uD := (hkf.same _ _ (Nat.le_refl _) hk rfl)
    have ult : w.heap.size + 1 < U.heap.size := (Array.getElem?_eq_some_iff.1 uL).1
    refine ⟨_, run_beginRound uL (by rw [hR]), ?_⟩
    obtain ⟨U2, hU2⟩ : ∃ U2, U2 = U.putObj (w.heap.size + 1) (.loop { R .ready none with state := .busy }) := ⟨_, rfl⟩
    have u2L : U2.heap[w.heap.size + 1]? = some (.loop { R .ready none with state := .busy }) := by rw [hU2]; exact World.putObj_heap_same ult
    have u2D : U2.heap[w.heap.size]? = some (.deferred (some [])) := by rw [hU2]; exact (World.putObj_heap_other (by omega)).trans uD
    have u2K : Kp U U2 := by rw [hU2]; exact hKb _ _ _ _ (by omega) uL rfl rfl
    have u2I : I pre U2 := by rw [hU2]; exact hI.putObj _ hiU (by omega) uL rfl
    have u2A : Ax x a' U2 := by rw [hU2]; exact (hAx x a').putObj (s := ()) _ haU (by omega) uL rfl
    rw [← hU2]
    refine wpIn_mono (hbody _ pre x a' U2 (by omega) u2I u2A hlen) ?_
    have fin : ∀ (jump : Option Code) (Z : World), KeepsFrom w.heap.size U2 Z →
        (Instr.endRound (w.heap.size + 1) jump).run P Z = .ok (.bool jump.isNone) (Z.putObj (w.heap.size + 1) (.loop (R (if jump.isNone then .ready else .done) jump))) ∧
        Z.heap[w.heap.size + 1]? = some (.loop { R .ready none with state := .busy }) ∧
        (Z.putObj (w.heap.size + 1) (.loop (R (if jump.isNone then .ready else .done) jump))).heap[w.heap.size + 1]? = some (.loop (R (if jump.isNone then .ready else .done) jump)) ∧
        (Z.putObj (w.heap.size + 1) (.loop (R (if jump.isNone then .ready else .done) jump))).heap[w.heap.size]? = some (.deferred (some [])) := fun jump Z hz => by
      have zl := hz.same _ _ (by omega) u2L rfl
      have h := run_endRound (P := P) jump zl
      rw [hR] at h ⊢
      exact ⟨h, by rw [hR] at zl; exact zl, World.putObj_heap_same (Array.getElem?_eq_some_iff.1 zl).1, (World.putObj_heap_other (by omega)).trans (hz.same _ _ (Nat.le_refl _) u2D rfl)⟩
    have stop : ∀ (c : Code) (Z : World), KeepsFrom w.heap.size U2 Z → Ix c (pre ++ [x]) Z → ∃ v Z', (Instr.endRound (w.heap.size + 1) (some c)).run P Z = .ok v Z' ∧
        ((Ending.returned v = .returned (.bool true) ∧ J (pre ++ [x]) Z' ∧ Kp W Z') ∨ (Ending.returned v = .returned (.bool false) ∧ Jx (pre ++ [x]) Z')) := fun c Z hz hi3 => by
      obtain ⟨hr, zl, zl4, zk4⟩ := fin (some c) Z hz
      exact ⟨_, _, hr, .inr ⟨rfl, c, (hIx _).putObj _ hi3 (by omega) zl rfl, zl4, zk4⟩⟩
    rintro e a3 Z hp
    cases e with
    | normal =>
      obtain ⟨hz, hkp3, hi3⟩ := hp
      obtain ⟨hr, zl, zl4, zk4⟩ := fin none Z hz
      exact ⟨_, _, hr, .inl ⟨rfl, ⟨hI.putObj _ hi3 (by omega) zl rfl, zl4, zk4⟩, hKt hkp (hKt (hKt u2K hkp3) (hKb _ _ _ _ (by omega) zl rfl rfl))⟩⟩
    | ret => exact stop _ Z hp.1 hp.2
    | exit id => exact stop _ Z hp.1 hp.2
    | goto t => exact stop _ Z hp.1 hp.2
    | panic ch => exact hp.elim
    | outgrown => exact hp.elim
  · rintro e Z ⟨⟨v, rfl⟩, (⟨xs, hS, hi, hl, hk⟩ | ⟨pre, hSp, c, hi, hl, hk⟩)⟩
    · exact ⟨none, _, by have h := run_endLoop (P := P) hl (by rw [hR]; simp [rec']); rw [hR] at h; exact h, hdone _ xs _ (Nat.le_refl _) hS (hI.putObj _ hi (by omega) hl rfl) ((World.putObj_heap_other (by omega)).trans hk)⟩
    · exact ⟨some c, _, by have h := run_endLoop (P := P) hl (by rw [hR]; simp [rec']); rw [hR] at h; exact h, hstop _ c pre _ (Nat.le_refl _) hSp ((hIx c).putObj _ hi (by omega) hl rfl) ((World.putObj_heap_other (by omega)).trans hk)⟩
end
end Go.Proofs.YtjlikcfabekhlaaGreatDoor

/- Is a text one token of a kind: this side (layer 12). -/
namespace Go.Proofs.YtjlikcfabekhlaaGreatDoor
open Go.RowKit Go.Tab Go.Shelf
attribute [local go_sem] Oper.semAt_some

theorem lAll_good (n Bn : Nat) (s : ByteArray) (hs : s.size ≤ 100000) (w : World) (hc : w.cell? ⟨Bn, 0, none⟩ = some (.string s)) (hT : LexT w) :
    SeqGood Fence.wide n Tryz.prog 133 #[.pointer (some ⟨Bn, 0, none⟩)] (fun x : Tok => #[tokV x]) (KpB w.heap.size) (fun _ _ => True) (fun ys => ys = (lexL s.data.toList 0).1) (fun pre => pre <+: (lexL s.data.toList 0).1) (lexL s.data.toList 0).1.length w := fun l0 J Jx W hW aJ _ hY h0 =>
  lAll1_in n l0 Bn s hs w hc hT J Jx (fun p A B hs hbl => aJ p A B none hs (grown_none hbl) (fun r e => by cases e))
    (fun m pre x W1 hj _ hp => yieldAt_any m (hY pre x W1 hj trivial (by have := hp.length_le; simp at this; omega))) W (KpB.below hW) h0
theorem three_new' {w w2 : World} {c1 c2 c3 : Array Value} {T1 T2 T3 : TypeId} (hb : Below (((w.alloc (.cells c1 T1)).alloc (.cells c2 T2)).alloc (.cells c3 T3)).heap.size (((w.alloc (.cells c1 T1)).alloc (.cells c2 T2)).alloc (.cells c3 T3)) w2) :
    Cells w2 w.heap.size c1 T1 ∧ Cells w2 (w.heap.size + 1) c2 T2 ∧ Cells w2 (w.heap.size + 1 + 1) c3 T3 ∧ Below w.heap.size w w2 := by
  have hs := hb.size
  simp only [World.size_alloc] at hs
  have h0 : Below w.heap.size w (((w.alloc (.cells c1 T1)).alloc (.cells c2 T2)).alloc (.cells c3 T3)) := by (repeat' (first | (with_reducible refine Below.setCell ?_ ?_ _) | (with_reducible refine Below.alloc ?_ ?_ _) | (with_reducible refine Below.drew ?_) | (with_reducible refine below_drewN ?_ _) | (with_reducible assumption) | (with_reducible exact Below.refl _ _) | (simp only [World.size_alloc, World.size_setCell, World.size_drew]; done) | (simp only [World.size_alloc, World.size_setCell, World.size_drew]; omega) | omega))
  refine ⟨(((Cells.new w c1 T1).alloc _).alloc _).below hb (by simp; omega), ?_, ?_, h0.trans (hb.mono h0.size)⟩
  · have h := ((Cells.new (w.alloc (.cells c1 T1)) c2 T2).alloc (.cells c3 T3)).below hb (by simp)
    simpa using h
  · have h := (Cells.new ((w.alloc (.cells c1 T1)).alloc (.cells c2 T2)) c3 T3).below hb (by simp)
    simpa using h
theorem keeps_set {w w' : World} (h : Below w.heap.size w w') (a : Addr) (v : Value) (B : Nat) : KeepsFrom B w (w'.setCell a v) :=
  ((KeepsOthers.of_grownBy (grown_none h) (fun j o e => by cases e)).trans (KeepsOthers.setCell _ _ _)).from B
theorem int_dec (n : Nat) (k : Nat) : ((n : Int) == (k : Int)) = decide (n = k) := by
  by_cases h : n = k
  · subst h; simp
  · rw [decide_eq_false h, beq_eq_false_iff_ne]; omega
def firB (l : List Tok) (k : Int) (n : Nat) : Bool := match l with
  | [] => false
  | t :: _ => decide (t.kind = k) && decide (t.text.size = n)
set_option maxHeartbeats 4000000 in
set_option maxRecDepth 100000 in
theorem alone_any : AloneC := by
  intro s k w hT hs
  refine (callsIn_wide (n := 9)).1 ?_
  rw [alone_first]
  obtain ⟨L, hL⟩ : ∃ L, L = (lexL s.data.toList 0).1 := ⟨_, rfl⟩
  have hgood := fun n Bn w hc hT => lAll_good n Bn s (by omega) w hc hT
  rw [← hL] at hgood ⊢
  clear hL
  show CallsIn _ _ _ _ _ _ (fun e w' => e = .returned (.bool (firB L k s.size)) ∧ Below w.heap.size w w')
  refine callsIn_of_wp_marks Tryz.func77 rfl trivial ?_ rfl
  simp only [Tryz.ntmps77, List.size_toArray, List.length_cons, List.length_nil, Nat.reduceAdd, Nat.reduceSub, Array.replicate_succ, Array.replicate_zero, List.push_toArray, List.append_toArray, List.nil_append, List.cons_append]
  have HA := Lib.hid (lAll_any s (((w.alloc (.cells #[.string s] 9)).alloc (.cells #[.int .i64 k] 3)).alloc (.cells #[.bool false] 4)))
  gi_wp2
  refine ⟨trivial, (callsIn_wide.2 HA.out).mono ?_⟩
  rintro e w1 ⟨rfl, hw1⟩
  have hb1 : Below (((w.alloc (.cells #[.string s] 9)).alloc (.cells #[.int .i64 k] 3)).alloc (.cells #[.bool false] 4)).heap.size (((w.alloc (.cells #[.string s] 9)).alloc (.cells #[.int .i64 k] 3)).alloc (.cells #[.bool false] 4)) w1 := by
    rw [hw1]; exact (Below.refl _ _).alloc (Nat.le_refl _) _
  obtain ⟨k0, k1, k2, hB0⟩ := three_new' hb1
  have hz : w1.heap.size = w.heap.size + 4 := by rw [hw1]; simp
  have hcB : w1.cell? ⟨w.heap.size + 3, 0, none⟩ = some (.string s) := by
    have h := World.cell?_alloc_new (w := ((w.alloc (.cells #[.string s] 9)).alloc (.cells #[.int .i64 k] 3)).alloc (.cells #[.bool false] 4)) #[.string s] 9 0
    simp only [World.size_alloc] at h
    rw [hw1]; exact h
  have hT1 := hT.below hB0
  clear HA hw1 hb1
  simp only [World.size_alloc]
  have hneq : ∀ W, Sem.run Tryz.prog (binOp .neq 136 (Value.func (Fn.func 133) #[] #[Value.pointer (some { block := w.heap.size + 3, off := 0 })]) Value.nilFunc) W = .ok (.bool true) W := fun W => by rfl
  gi_wp2
  obtain ⟨I, hI⟩ : ∃ I : List Tok → World → Prop, I = (fun pre W => w1.heap.size ≤ W.heap.size ∧ pre = [] ∧ Cells W w.heap.size #[.string s] 9 ∧ Cells W (w.heap.size + 1) #[.int .i64 k] 3 ∧ Cells W (w.heap.size + 1 + 1) #[.bool false] 4 ∧ Below w.heap.size w W) := ⟨_, rfl⟩
  obtain ⟨Ix, hIx⟩ : ∃ Ix : Code → List Tok → World → Prop, Ix = (fun c pre W => ∃ x : Tok, pre = [x] ∧ c = .ret ∧ Cells W (w.heap.size + 1 + 1) #[.bool (decide (x.kind = k) && decide (x.text.size = s.size))] 4 ∧ Below w.heap.size w W) := ⟨_, rfl⟩
  have hIown : OwnFrom w1.heap.size I := by
    subst hI
    intro pre U U' row ⟨q0, q1, q2, q3, q4, q5⟩ hg hr
    have hk := KpA.grown hg (fun r e => (hr r e).2)
    exact ⟨Nat.le_trans q0 hg.size, q1, hk.cells q2, hk.cells q3, hk.cells q4, q5.grown hg q5.size (fun j hj => by have := (hr j hj).1; omega)⟩
  have hIxown : ∀ c, OwnFrom w1.heap.size (Ix c) := by
    subst hIx
    intro c pre U U' row ⟨x, q1, q2, q3, q4⟩ hg hr
    have hk := KpA.grown hg (fun r e => (hr r e).2)
    exact ⟨x, q1, q2, hk.cells q3, q4.grown hg q4.size (fun j hj => by have := (hr j hj).1; omega)⟩
  have HI := Lib.hid hI
  have HIx := Lib.hid hIx
  clear hI hIx
  refine wpIn_rangeFunc_good rfl (by omega) (gf := 133) (lb := #[.pointer (some ⟨w.heap.size + 1 + 1 + 1, 0, none⟩)]) rfl trivial (enters_of Tryz.func133 (by kernel_rfl) rfl)
    (hgood _ _ w1 hcB hT1) KpB.trans (KpB.put (Nat.le_refl _)) (Below.refl _ _) (fun _ => rfl)
    I Ix hIown hIxown (by rw [HI.out]; exact ⟨Nat.le_refl _, rfl, k0, k1, k2, hB0⟩)
    (fun x a' W => ∃ pX : Nat, a' = { tmps := #[.string s, .int .i64 k, .pointer (some ⟨w.heap.size, 0, none⟩), .pointer (some ⟨w.heap.size + 1, 0, none⟩), .pointer (some ⟨w.heap.size + 1 + 1, 0, none⟩), .pointer (some ⟨pX, 0, none⟩), .string s, .func (.func 133) #[] #[.pointer (some ⟨w.heap.size + 1 + 1 + 1, 0, none⟩)], tokV x, undef, undef, undef, undef, undef, undef, undef, undef, undef, undef, undef, undef], defers := [] } ∧ Cells W pX #[.int .i64 x.kind, .string x.text, .int .i64 x.pos] 52)
    (fun x a' _ U U' row ⟨pX, q1, q2⟩ hg hr => ⟨pX, q1, (KpA.grown hg (fun r e => (hr r e).2)).cells q2⟩) ?assign ?body ?done ?stop
  case assign =>
    rintro l pre ⟨xk, xt, xp⟩ W K hI2 - hK
    simp only [tokV, List.size_toArray, List.length_cons, List.length_nil]
    gi_wp2
    exact hK _ _ ((KeepsOthers.alloc W _).from _) (KpB.below ((Below.refl _ W).alloc (by have h := hI2; rw [HI.out] at h; exact h.1) _)) (hIown.alloc _ hI2) ⟨W.heap.size, rfl, Cells.new W _ _⟩
  case body =>
    rintro l pre ⟨xk, xt, xp⟩ a' W hl hI2 ⟨pX, rfl, hcx⟩ hlt
    rw [HI.out] at hI2
    obtain ⟨-, rfl, q0, q1, q2, qb⟩ := hI2
    have hbz := qb.size
    have HQ := Lib.hid (And.intro q2 qb)
    have q0c0 := q0.cell 0 _ rfl
    have q0f0 := q0.frozen 0
    have q1c0 := q1.cell 0 _ rfl
    have q1f0 := q1.frozen 0
    have q2c0 := q2.cell 0 _ rfl
    have q2f0 := q2.frozen 0
    have hcxc0 := hcx.cell 0 _ rfl
    have hcxf0 := hcx.frozen 0
    have hcxc1 := hcx.cell 1 _ rfl
    have hcxf1 := hcx.frozen 1
    have hcxc2 := hcx.cell 2 _ rfl
    have hcxf2 := hcx.frozen 2
    have ek : (xk == k) = decide (xk = k) := by
      by_cases h : xk = k
      · subst h; simp
      · rw [decide_eq_false h]; simpa using h
    have et : ((xt.size : Int) == (s.size : Int)) = decide (xt.size = s.size) := int_dec xt.size s.size
    have hbelow := fun b => (Below.refl w.heap.size W).setCell (p := ⟨w.heap.size + 1 + 1, 0, none⟩) (by show w.heap.size ≤ w.heap.size + 1 + 1; omega) (.bool b)
    have hkeep := fun b => keeps_set (Below.refl W.heap.size W) ⟨w.heap.size + 1 + 1, 0, none⟩ (.bool b) (w.heap.size + 4)
    have hfin : ∀ b, b = (decide (xk = k) && decide (xt.size = s.size)) → Ix .ret ([] ++ [⟨xk, xt, xp⟩]) (W.setCell ⟨w.heap.size + 1 + 1, 0, none⟩ (.bool b)) := fun b hb => by
      rw [HIx.out]
      exact ⟨⟨xk, xt, xp⟩, rfl, rfl, by rw [← hb]; exact HQ.out.1.setI 0 (.bool b), HQ.out.2.trans (hbelow b)⟩
    have HF := Lib.hid hfin
    have HKp := Lib.hid hkeep
    clear q0 q1 q2 qb hcx hfin hkeep hbelow
    generalize decide (xk = k) = bk at *
    generalize decide (xt.size = s.size) = bt at *
    cases bk <;> cases bt
    all_goals
      gi_wp2
      exact ⟨HKp.out _, HF.out _ rfl⟩
  case done =>
    rintro D xs W hD hS hI2 hK
    subst hS
    rw [HI.out] at hI2
    obtain ⟨-, rfl, q0, q1, q2, qb⟩ := hI2
    clear hgood k0 k1 k2 hB0 hcB hT1 hneq hIown hIxown HI HIx
    have q2c0 := q2.cell 0 _ rfl
    have q2f0 := q2.frozen 0
    gi_wp2
    have hK2 : (W.setCell ⟨w.heap.size + 1 + 1, 0, none⟩ (.bool false)).heap[D]? = some (.deferred (some [])) := (Below.heap_setCell _ _ _ _ (by show D ≠ w.heap.size + 1 + 1; omega)).trans hK
    have hcl : ((W.setCell ⟨w.heap.size + 1 + 1, 0, none⟩ (.bool false)).putObj D (.deferred none)).cell? ⟨w.heap.size + 1 + 1, 0, none⟩ = some (.bool false) :=
      Cells.cell (cs := #[.bool false]) (t := 4) ((World.putObj_heap_other (by omega)).trans (q2.setI 0 (.bool false))) 0 _ rfl
    have hs1 : Below w.heap.size w (W.setCell ⟨w.heap.size + 1 + 1, 0, none⟩ (.bool false)) := qb.setCell (by show w.heap.size ≤ w.heap.size + 1 + 1; omega) _
    have HBE := Lib.hid (hs1.trans (belowK_b (w := w) (Nat.le_refl _) _ D _ (.deferred none) (by omega) hK2 rfl rfl))
    refine ⟨by simp, .inl ⟨_, _, rfl, run_takeDeferred hK2, ?_⟩⟩
    clear q0 q1 q2 qb hK hK2 q2c0 q2f0 hs1
    exact ⟨.bool false, by simp [results, Tryz.results77, go_sem, hcl], rfl, HBE.out⟩
  case stop =>
    rintro D c pre W hD hpre hx hK
    rw [HIx.out] at hx
    obtain ⟨x, rfl, rfl, q2, qb⟩ := hx
    obtain ⟨more, hmore⟩ := hpre
    have hR : firB L k s.size = (decide (x.kind = k) && decide (x.text.size = s.size)) := by rw [← hmore]; rfl
    have HBE := Lib.hid (qb.trans (belowK_b (w := w) (Nat.le_refl _) _ D _ (.deferred none) (by omega) hK rfl rfl))
    generalize (decide (x.kind = k) && decide (x.text.size = s.size)) = bb at *
    have HR := Lib.hid hR
    have hcl : (W.putObj D (.deferred none)).cell? ⟨w.heap.size + 1 + 1, 0, none⟩ = some (.bool bb) :=
      Cells.cell (cs := #[.bool bb]) (t := 4) ((World.putObj_heap_other (by omega)).trans q2) 0 _ rfl
    clear hgood k0 k1 k2 hB0 hcB hT1 hneq hIown hIxown HI HIx hmore hR
    gi_wp2
    refine ⟨by simp, .inl ⟨_, _, rfl, run_takeDeferred hK, ?_⟩⟩
    clear q2 qb hK
    exact ⟨.bool bb, by simp [results, Tryz.results77, go_sem, hcl], by rw [HR.out], HBE.out⟩
end Go.Proofs.YtjlikcfabekhlaaGreatDoor

/- Is an expression one that could have been told: the reference's answer (layer 12). -/
namespace Go.Proofs.YtjlikcfabekhlaaGreatDoor
open Go.RowKit Go.Tab

/-- What is asked behind the kids, as the reference asks it. -/
theorem okX_of (o t : ByteArray) (n : Nat) {x : Int × Nat} (h : kOf o = some x) : okX o t n = ((decide (x.1 = -1) || decide (x.1 = (n : Int))) && txtB x.2 t) := by
  unfold okX; rw [h]
theorem okX_none (o t : ByteArray) (n : Nat) (h : kOf o = none) : okX o t n = false := by
  unfold okX; rw [h]
theorem dec_int (n : Nat) (k : Nat) : decide ((k : Int) = (n : Int)) = decide (n = k) := by
  by_cases h : n = k
  · subst h; simp
  · rw [decide_eq_false h, decide_eq_false]; omega
set_option maxHeartbeats 8000000 in
set_option maxRecDepth 100000 in
theorem rRight_step (n : Nat) (IH : ∀ (t : Exp), t.bulk ≤ n → ShortX t → ∀ (w : World) (cs : List Value), ExpAt w t cs → Calls Tryz.prog 21 #[vX cs] w fun e w' => e = .returned (.bool (rightX t)) ∧ Below w.heap.size w w')
    (op text : ByteArray) (kids : List Exp) (h : (Exp.mk op text kids).bulk ≤ n + 1) (hs : ShortX (.mk op text kids)) (w : World) (cs : List Value) (hv : ExpAt w (.mk op text kids) cs) :
    Calls Tryz.prog 21 #[vX cs] w fun e w' => e = .returned (.bool (rightX (.mk op text kids))) ∧ Below w.heap.size w w' := by
  have hkb : bulkX kids ≤ n := by simp only [Exp.bulk] at h; omega
  simp only [ShortX] at hs
  obtain ⟨a, cap, rfl, hl, hm, hnil, hx⟩ := hv.open
  unfold maxLen at hm
  simp only [vX]
  clear h hv
  have hb1 : Below w.heap.size w (w.alloc (.cells #[.string op, .string text, .slice a kids.length cap] 30)) := (Below.refl _ w).alloc (Nat.le_refl _) _
  have hc := Cells.new w #[.string op, .string text, .slice a kids.length cap] 30
  have hR : rightX (.mk op text kids) = (okX op text kids.length && rightXs kids) := by simp only [rightX]
  rw [hR]
  obtain ⟨R, hRR⟩ : ∃ R, R = (okX op text kids.length && rightXs kids) := ⟨_, rfl⟩
  rw [← hRR]
  have HRR := Lib.hid hRR
  clear hRR
  have HX := Lib.hid hx
  have HIH := Lib.hid IH
  have HS := Lib.hid hs
  have HB := Lib.hid hb1
  have HC := Lib.hid hc
  clear hR hx IH hs hb1 hc
  go_enter Tryz.func21, Tryz.ntmps21
  go_wp2_with fail
  go_loopw [2, 4] (fun rv i wr => ∃ k : Nat, k ≤ kids.length ∧ rv = .bool false ∧ i = .int .i64 (k : Int) ∧ rightXs (kids.take k) = true ∧ Below w.heap.size w wr ∧ Cells wr w.heap.size #[.string op, .string text, .slice a kids.length cap] 30) (fun _ i _ => kids.length - (intOf i).toNat)
  case atStart => exact ⟨0, Nat.zero_le _, rfl, rfl, by simp [rightXs], HB.out, HC.out⟩
  case round =>
    obtain ⟨k, hk, rfl, rfl, hall, hbl, hcl⟩ := hrel
    have HA := Lib.hid hall
    have HBL := Lib.hid hbl
    have hl0 := hcl.lt
    clear hall HB HC
    by_cases hkl : k < kids.length
    · have hne : kids ≠ [] := by intro h0; rw [h0] at hkl; simp at hkl
      cases a with
      | none => have := hnil rfl; omega
      | some x =>
      obtain ⟨bb, off, sp⟩ := x
      obtain ⟨rfl, hlt, hkids⟩ := KidsE.below HX.out hbl _ rfl hne
      simp only at hlt hkids
      obtain ⟨kc0, hkc, hkv⟩ := ExpsAt.get hkids k hkl
      obtain ⟨kop, ktext, ksa, ksn, ksc, rfl, m0, m1, m2⟩ := exp_at hkv hkc
      have hC := HIH.out kids[k] (by have := bulkX_kid hkl; omega) (ShortX.kid hkl HS.out.2.2) _ _ hkv
      have HTk := Lib.hid (rightXs_take kids k hkl)
      have HBk := Lib.hid (fun h => rightXs_bad hkl h)
      have HCL := Lib.hid hcl
      clear hkv hkc hkids hbl
      simp only [vX] at hC
      generalize rightX kids[k] = rb at *
      have hclc0 := hcl.cell 0 _ rfl
      have hclf0 := hcl.frozen 0
      have hclc1 := hcl.cell 1 _ rfl
      have hclf1 := hcl.frozen 1
      have hclc2 := hcl.cell 2 _ rfl
      have hclf2 := hcl.frozen 2
      clear hcl
      go_wp2_with fail
      refine hC.mono ?_
      rintro _ w4 ⟨rfl, hb4⟩
      have HB4 := Lib.hid (HBL.out.trans (hb4.mono HBL.out.size))
      have HC4 := Lib.hid (HCL.out.below hb4 hl0)
      clear hC hb4 hclc0 hclc1 hclc2 hclf0 hclf1 hclf2
      cases rb with
      | false =>
        go_wp2
        go_ret
        exact ⟨by rw [HRR.out, HBk.out trivial]; simp, HB4.out⟩
      | true =>
        go_wp2_with fail
        go_roundw
        case rel => exact ⟨k + 1, hkl, rfl, by go_num, by rw [HTk.out, HA.out]; rfl, HB4.out, HC4.out⟩
        case measure => simp [intOf]; omega
    · obtain rfl : k = kids.length := by omega
      have h5 := HA.out
      rw [List.take_length] at h5
      have hR := HRR.out
      rw [h5, Bool.and_true] at hR
      clear HRR
      have p0 := hcl.cell 0 (.string op) rfl
      have p1 := hcl.cell 1 (.string text) rfl
      have hA1 := rAlone_any text 1 wr (by have := HS.out.2.1; omega)
      have hA2 := rAlone_any text 2 wr (by have := HS.out.2.1; omega)
      have hV := rValid_any text wr (by have := HS.out.2.1; omega)
      have HB5 := Lib.hid (hbl)
      have hE := empty_dec text
      have e0 : ((kids.length : Int) == 0) = decide (kids.length = 0) := int_dec kids.length 0
      have e1 : ((kids.length : Int) == 1) = decide (kids.length = 1) := int_dec kids.length 1
      have e2 : ((kids.length : Int) == 2) = decide (kids.length = 2) := int_dec kids.length 2
      have e3 : ((kids.length : Int) == 3) = decide (kids.length = 3) := int_dec kids.length 3
      have d0 : decide ((0 : Int) = (kids.length : Int)) = decide (kids.length = 0) := dec_int kids.length 0
      have d1 : decide ((1 : Int) = (kids.length : Int)) = decide (kids.length = 1) := dec_int kids.length 1
      have d2 : decide ((2 : Int) = (kids.length : Int)) = decide (kids.length = 2) := dec_int kids.length 2
      have d3 : decide ((3 : Int) = (kids.length : Int)) = decide (kids.length = 3) := dec_int kids.length 3
      generalize decide (kids.length = 0) = c0 at *
      generalize decide (kids.length = 1) = c1 at *
      generalize decide (kids.length = 2) = c2 at *
      generalize decide (kids.length = 3) = c3 at *
      have HD := Lib.hid (And.intro d0 (And.intro d1 (And.intro d2 d3)))
      clear hcl hbl h5 HA HBL d0 d1 d2 d3 HX HIH
      generalize kids.length = nn at *
      rcases k_cases op with ⟨x, hx, rfl, hv⟩ | ⟨hv, h⟩
      · rw [okX_of _ _ _ hv] at hR
        clear hv
        simp only [kTab, List.mem_cons, List.not_mem_nil, or_false] at hx
        rcases hx with rfl | rfl | rfl | rfl | rfl | rfl | rfl | rfl | rfl | rfl | rfl | rfl | rfl | rfl | rfl | rfl | rfl | rfl | rfl | rfl | rfl | rfl | rfl
        all_goals
          simp only [txtB, validB] at hR
          simp only [strL] at p0 ⊢
          have HR := Lib.hid hR
          clear hR
          generalize aloneB text 1 = t1 at *
          generalize aloneB text 2 = t2 at *
          generalize (scan (bs text) 0).2.isNone = t3 at *
          generalize decide (text = ⟨#[]⟩) = t4 at *
          go_wp2_with (first | (go_at_call 43; (first | with_reducible refine hA1.mono ?_ | with_reducible refine hA2.mono ?_); rintro _ w6 ⟨rfl, hb6⟩; have HB6 := Lib.hid (HB5.out.trans (hb6.mono HB5.out.size)); have hl6 := Nat.lt_of_lt_of_le hl0 hb6.size; have u0 := (hb6.cell (p := ⟨w.heap.size, 0, none⟩) hl0).trans p0; have u1 := (hb6.cell (p := ⟨w.heap.size, 1, none⟩) hl0).trans p1; clear hb6 p0 p1) | (go_at_call 44; refine hV.mono ?_; rintro _ w6 ⟨rfl, hb6⟩; have HB6 := Lib.hid (HB5.out.trans (hb6.mono HB5.out.size)); have hl6 := Nat.lt_of_lt_of_le hl0 hb6.size; clear hb6) | (go_at_call 45; refine (rLevel_any _ _).mono ?_; rintro _ _ ⟨rfl, rfl⟩; simp only [lvv0, lvv1, lvv2, lvv3, lvv4, lvv5, lvv6, lvv7, lvv8, lvv9, lvv10, lvv11, lvv12, lvv13, lvv14, lvv15]))
          all_goals go_ret
          all_goals first | exact ⟨by rw [HR.out]; (first | (simp [HD.out]; done) | (simp [HD.out, *])), HB6.out⟩ | exact ⟨by rw [HR.out]; (first | (simp [HD.out]; done) | (simp [HD.out, *])), HB5.out⟩
      · rw [okX_none _ _ _ hv] at hR
        have s0 := op
        have hl := lvv_none h
        have n15 := fresh op h [110, 101, 103] (by decide)
        have n14 := fresh op h [33] (by decide)
        have n0 := fresh op h [63] (by decide)
        have n17 := fresh op h [97, 116] (by decide)
        have n18 := fresh op h [110, 97, 109, 101] (by decide)
        have n19 := fresh op h [99, 97, 108, 108] (by decide)
        have n16 := fresh op h [103, 101, 116] (by decide)
        have n20 := fresh op h [110, 117, 109] (by decide)
        have n21 := fresh op h [116, 101, 120, 116] (by decide)
        have n22 := fresh op h [108, 105, 115, 116] (by decide)
        have HR := Lib.hid hR
        clear hv h hR
        go_wp2_with (go_at_call 45; refine (rLevel_any _ _).mono ?_; rintro _ _ ⟨rfl, rfl⟩; rw [hl])
        go_ret
        exact ⟨by rw [HR.out]; rfl, HB5.out⟩
theorem rRight_upto (n : Nat) : ∀ (t : Exp), t.bulk ≤ n → ShortX t → ∀ (w : World) (cs : List Value), ExpAt w t cs → Calls Tryz.prog 21 #[vX cs] w fun e w' => e = .returned (.bool (rightX t)) ∧ Below w.heap.size w w' := by
  induction n with
  | zero => intro t h; have := bulkX_pos t; omega
  | succ n IH =>
    intro t h hs w cs hv
    cases t
    exact rRight_step n IH _ _ _ h hs w cs hv
theorem rRight_any (t : Exp) (hs : ShortX t) (w : World) (cs : List Value) (hv : ExpAt w t cs) : Calls Tryz.prog 21 #[vX cs] w fun e w' => e = .returned (.bool (rightX t)) ∧ Below w.heap.size w w' :=
  rRight_upto t.bulk t (Nat.le_refl _) hs w cs hv
end Go.Proofs.YtjlikcfabekhlaaGreatDoor

/- Writing over texts: what stays, whatever is written over. -/
namespace Go.Proofs.YtjlikcfabekhlaaGreatDoor
open Go.RowKit Go.Tab

/-- The same, or a text that has grown by m bytes at most. -/
def Like (m : Nat) (u u' : Value) : Prop := u' = u ∨ ∃ s s' : ByteArray, u = .string s ∧ u' = .string s' ∧ s'.size ≤ s.size + m
theorem Like.refl (m : Nat) (u : Value) : Like m u u := .inl rfl
theorem Like.trans {m n : Nat} {u v x : Value} (h : Like m u v) (h2 : Like n v x) : Like (m + n) u x := by
  rcases h with rfl | ⟨s, s', rfl, rfl, hs⟩
  · rcases h2 with rfl | ⟨s, s', rfl, rfl, hs⟩
    · exact .inl rfl
    · exact .inr ⟨s, s', rfl, rfl, by omega⟩
  · rcases h2 with rfl | ⟨t, t', h1, rfl, ht⟩
    · exact .inr ⟨s, s', rfl, rfl, by omega⟩
    · cases h1; exact .inr ⟨s, t', rfl, rfl, by omega⟩
theorem Like.str {m : Nat} {s : ByteArray} {v : Value} (h : Like m (.string s) v) : ∃ s' : ByteArray, v = .string s' ∧ s'.size ≤ s.size + m := by
  rcases h with rfl | ⟨t, t', h1, rfl, ht⟩
  · exact ⟨s, rfl, by omega⟩
  · cases h1; exact ⟨t', rfl, ht⟩
theorem Like.int {m : Nat} {k : IntKind} {n : Int} {v : Value} (h : Like m (.int k n) v) : v = .int k n := by
  rcases h with rfl | ⟨t, t', h1, -⟩
  · rfl
  · cases h1
theorem Like.bool {m : Nat} {n : Bool} {v : Value} (h : Like m (.bool n) v) : v = .bool n := by
  rcases h with rfl | ⟨t, t', h1, -⟩
  · rfl
  · cases h1
theorem Like.slice {m : Nat} {a : Option Addr} {n c : Nat} {v : Value} (h : Like m (.slice a n c) v) : v = .slice a n c := by
  rcases h with rfl | ⟨t, t', h1, -⟩
  · rfl
  · cases h1
/-- Only texts in blocks of the kind have turned, each grown by m bytes at most. -/
structure Spoiled (P : Nat → Prop) (m : Nat) (w w' : World) : Prop where
  os : w'.os = w.os
  tape : w'.tape = w.tape
  output : w'.output = w.output
  size : w'.heap.size = w.heap.size
  block : ∀ k, ¬ P k → w'.heap[k]? = w.heap[k]?
  frozen : ∀ k off, w'.frozen? ⟨k, off, none⟩ = w.frozen? ⟨k, off, none⟩
  cell : ∀ k off u, w.cell? ⟨k, off, none⟩ = some u → ∃ u', w'.cell? ⟨k, off, none⟩ = some u' ∧ Like m u u'
theorem Spoiled.refl (P : Nat → Prop) (m : Nat) (w : World) : Spoiled P m w w := ⟨rfl, rfl, rfl, rfl, fun _ _ => rfl, fun _ _ => rfl, fun _ _ u h => ⟨u, h, Like.refl _ _⟩⟩
theorem Spoiled.trans {P : Nat → Prop} {m n : Nat} {w w1 w2 : World} (h : Spoiled P m w w1) (h2 : Spoiled P n w1 w2) : Spoiled P (m + n) w w2 :=
  ⟨h2.os.trans h.os, h2.tape.trans h.tape, h2.output.trans h.output, h2.size.trans h.size, fun k hk => (h2.block k hk).trans (h.block k hk), fun k off => (h2.frozen k off).trans (h.frozen k off), fun k off u hu => by
    obtain ⟨u1, g1, g2⟩ := h.cell k off u hu
    obtain ⟨u2, g3, g4⟩ := h2.cell k off u1 g1
    exact ⟨u2, g3, g2.trans g4⟩⟩
theorem Spoiled.mono {P : Nat → Prop} {m n : Nat} {w w1 : World} (h : Spoiled P m w w1) (hm : m ≤ n) : Spoiled P n w w1 :=
  ⟨h.os, h.tape, h.output, h.size, h.block, h.frozen, fun k off u hu => by
    obtain ⟨u1, g1, g2⟩ := h.cell k off u hu
    refine ⟨u1, g1, ?_⟩
    rcases g2 with rfl | ⟨s, s', rfl, rfl, hs⟩
    · exact .inl rfl
    · exact .inr ⟨s, s', rfl, rfl, by omega⟩⟩
theorem Spoiled.below {P : Nat → Prop} {m B : Nat} {w w1 : World} (h : Spoiled P m w w1) (hP : ∀ k, P k → B ≤ k) : Below B w w1 :=
  ⟨h.os, h.tape, h.output, Nat.le_of_eq h.size.symm, fun k hk => h.block k (fun hp => by have := hP k hp; omega)⟩
theorem Spoiled.write {P : Nat → Prop} {w : World} {b off : Nat} {s s' : ByteArray} (hc : w.cell? ⟨b, off, none⟩ = some (.string s)) (hP : P b) (hs : s'.size ≤ s.size + 1) : Spoiled P 1 w (w.setCell ⟨b, off, none⟩ (.string s')) where
  os := rfl
  tape := rfl
  output := rfl
  size := by simp [World.setCell]
  block := fun k hk => Below.heap_setCell _ _ _ _ (fun e => hk (by rw [e]; exact hP))
  frozen := fun k o => by
    simp only [World.frozen?, World.setCell]
    by_cases hk : b = k
    · subst hk
      rw [Array.getElem?_modify]
      cases h : w.heap[b]? with
      | none => simp [h]
      | some ob => cases ob <;> simp [h]
    · rw [Array.getElem?_modify, if_neg hk]
  cell := fun k o u hu => by
    by_cases hk : (⟨b, off, none⟩ : Addr) = ⟨k, o, none⟩
    · cases hk
      rw [hc] at hu
      cases hu
      exact ⟨_, World.cell?_setCell_same' _ _ _ (by rw [hc]; rfl), .inr ⟨s, s', rfl, rfl, hs⟩⟩
    · exact ⟨u, by rw [World.cell?_setCell_other (h := hk)]; exact hu, Like.refl _ _⟩

/-- The cells that lie there now, each like the one that lay there. -/
def LikeAll (m : Nat) (cs cs' : List Value) : Prop := cs'.length = cs.length ∧ ∀ (j : Nat) (u : Value), cs[j]? = some u → ∃ u', cs'[j]? = some u' ∧ Like m u u'
theorem Spoiled.cells {P : Nat → Prop} {m : Nat} {w w' : World} (h : Spoiled P m w w') {b : Nat} : ∀ (cs : List Value) (off : Nat), (∀ (j : Nat) (u : Value), cs[j]? = some u → w.cell? ⟨b, off + j, none⟩ = some u) →
    ∃ cs', LikeAll m cs cs' ∧ ∀ (j : Nat) (u : Value), cs'[j]? = some u → w'.cell? ⟨b, off + j, none⟩ = some u
  | [], off, _ => ⟨[], ⟨rfl, fun j u (hu : ([] : List Value)[j]? = some u) => by simp at hu⟩, fun j u (hu : ([] : List Value)[j]? = some u) => by simp at hu⟩
  | c :: r, off, hc => by
    obtain ⟨u', h1, h2⟩ := h.cell b off c (by simpa using hc 0 c rfl)
    obtain ⟨cs', ⟨g1, g2⟩, g3⟩ := Spoiled.cells h r (off + 1) (fun j u hu => by
      have := hc (j + 1) u (by simpa using hu)
      rw [← this]; congr 2; omega)
    refine ⟨u' :: cs', ⟨by simp [g1], fun j u hu => ?_⟩, fun j u hu => ?_⟩
    · rcases j with _ | j
      · simp at hu; subst hu; exact ⟨u', rfl, h2⟩
      · obtain ⟨v, k1, k2⟩ := g2 j u (by simpa using hu)
        exact ⟨v, by simpa using k1, k2⟩
    · rcases j with _ | j
      · simp at hu; subst hu; simpa using h1
      · rw [← g3 j u (by simpa using hu)]; congr 2; omega
end Go.Proofs.YtjlikcfabekhlaaGreatDoor
