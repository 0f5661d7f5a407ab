/- Texts of this claim, one behind the other: ExU, ExX, LaidK, LaidS, ExZ. -/
import Derived.Test.YtjlikcfabekhlaaDoorMgg
import Derived.Lib.LaidTab
import Derived.Test.YtjlikcfabekhlaaDoorRows
import Derived.Shelf.Vars
set_option linter.unusedSimpArgs false
set_option linter.unusedVariables false

/- Any two expressions are the same just if all parts of theirs are (layer 12). -/
namespace Go.Proofs.YtjlikcfabekhlaaDoor
open Go.RowKit Go.Tab

theorem vX_list (cs : Array Value) : vX cs.toList = .agg cs := by simp [vX]
set_option maxHeartbeats 4000000 in
set_option maxRecDepth 100000 in
theorem ExprSame_walk (c0 : List Value) (x0 : Exp) (c1 : List Value) (x1 : Exp) (a2 : ByteArray) (w : World) (w0 : ExpAt w x0 c0) (w1 : ExpAt w x1 c1) (w2 : a2.size ≤ maxLen) (hT : LexT w) (f0 : FitX x0) (f1 : FitX x1) :
    Calls Tryd.prog 4 #[vX c0, vX c1, .string a2] w fun e w' => e = .returned (.bool true) ∧ Below w.heap.size w w' := by
  obtain ⟨o0, t0, s0, n0, k0, rfl⟩ := w0.shape
  obtain ⟨o1, t1, s1, n1, k1, rfl⟩ := w1.shape
  have hb1 : Below w.heap.size w ((w.alloc (.cells #[.string o0, .string t0, .slice s0 n0 k0] 26)).alloc (.cells #[.string o1, .string t1, .slice s1 n1 k1] 26)) := ((Below.refl _ w).alloc (Nat.le_refl _) _).alloc (by simp) _
  have hv0 := ExpAt.below hb1 _ _ w0
  have hv1 := ExpAt.below hb1 _ _ w1
  have hW := wakes_any _ (hT.below hb1)
  have HB1 := Lib.hid hb1
  simp only [vX]
  clear hb1 hT w0 w1
  go_enter Tryd.func4, Tryd.ntmps4
  go_wp2_with fail
  refine hW.mono ?_
  rintro _ v2 ⟨rfl, hb2⟩
  obtain ⟨hc0, hc1, hz0, hz1⟩ := two_new hb2
  have HB2 := Lib.hid (HB1.out.trans (hb2.mono HB1.out.size))
  have hv0 := ExpAt.below hb2 _ _ hv0
  have hv1 := ExpAt.below hb2 _ _ hv1
  have hG0 := GreatX_any x0 f0 v2 _ hv0
  have HC := Lib.hid (And.intro hc0 hc1)
  clear hb2 hW HB1
  have hc0c0 := hc0.cell 0 _ rfl
  have hc0f0 := hc0.frozen 0
  have hc0c1 := hc0.cell 1 _ rfl
  have hc0f1 := hc0.frozen 1
  have hc0c2 := hc0.cell 2 _ rfl
  have hc0f2 := hc0.frozen 2
  have hc1c0 := hc1.cell 0 _ rfl
  have hc1f0 := hc1.frozen 0
  have hc1c1 := hc1.cell 1 _ rfl
  have hc1f1 := hc1.frozen 1
  have hc1c2 := hc1.cell 2 _ rfl
  have hc1f2 := hc1.frozen 2
  clear hc0 hc1
  go_wp2_with fail
  refine hG0.mono ?_
  rintro _ v3 ⟨⟨b, rfl, hbb⟩, hb3⟩
  have HB3 := Lib.hid (HB2.out.trans (hb3.mono HB2.out.size))
  clear hG0
  cases b with
  | true =>
    clear hb3
    go_wp2
    go_ret
    exact ⟨rfl, HB3.out⟩
  | false =>
    have hs0 := hbb rfl
    have hc0 := HC.out.1.below hb3 hz0
    have hc1 := HC.out.2.below hb3 hz1
    have hv0 := ExpAt.below hb3 _ _ hv0
    have hv1 := ExpAt.below hb3 _ _ hv1
    have hG1 := GreatX_any x1 f1 v3 _ hv1
    have hy0 := hc0.lt
    have hy1 := hc1.lt
    have HC3 := Lib.hid (And.intro hc0 hc1)
    clear hb3 HC hc0c0 hc0c1 hc0c2 hc0f0 hc0f1 hc0f2 hc1c0 hc1c1 hc1c2 hc1f0 hc1f1 hc1f2 hbb
    have hc0c0 := hc0.cell 0 _ rfl
    have hc0f0 := hc0.frozen 0
    have hc0c1 := hc0.cell 1 _ rfl
    have hc0f1 := hc0.frozen 1
    have hc0c2 := hc0.cell 2 _ rfl
    have hc0f2 := hc0.frozen 2
    have hc1c0 := hc1.cell 0 _ rfl
    have hc1f0 := hc1.frozen 0
    have hc1c1 := hc1.cell 1 _ rfl
    have hc1f1 := hc1.frozen 1
    have hc1c2 := hc1.cell 2 _ rfl
    have hc1f2 := hc1.frozen 2
    clear hc0 hc1
    go_wp2_with fail
    refine hG1.mono ?_
    rintro _ v4 ⟨⟨b, rfl, hbb⟩, hb4⟩
    have HB4 := Lib.hid (HB3.out.trans (hb4.mono HB3.out.size))
    clear hG1
    cases b with
    | true =>
      clear hb4
      go_wp2
      go_ret
      exact ⟨rfl, HB4.out⟩
    | false =>
      have hc0 := HC3.out.1.below hb4 hy0
      have hc1 := HC3.out.2.below hb4 hy1
      have hv0 := ExpAt.below hb4 _ _ hv0
      have hv1 := ExpAt.below hb4 _ _ hv1
      clear hb4 HC3 hc0c0 hc0c1 hc0c2 hc0f0 hc0f1 hc0f2 hc1c0 hc1c1 hc1c2 hc1f0 hc1f1 hc1f2 hbb
      by_cases h100 : 100 < a2.size
      · have hq : decide ((100 : Int) < (a2.size : Int)) = true := by rw [decide_eq_true_iff]; omega
        clear h100
        go_wp2
        go_ret
        exact ⟨rfl, HB4.out⟩
      · have hq : decide ((100 : Int) < (a2.size : Int)) = false := by rw [decide_eq_false_iff_not]; omega
        clear h100
        go_wp2_with fail
        obtain ⟨b, hb⟩ := some_bool (x0 = x1)
        have hS := fun x : Under v4 => Under.call x (SameP.fix hb (xSame_any x0 x1 x.w _ _ (hv0.under x) (hv1.under x)))
        have hR := fun x : Under v4 => Under.call x (SameP.fix hb (rSame_any x0 x1 x.w _ _ (hv0.under x) (hv1.under x)))
        have hL := fun x : Under v4 => Under.call x ((Level_any a2 x.w).mono (fun e w' h => And.intro h.1 (h.2 ▸ Below.refl _ _)))
        have hM := fun x : Under v4 => Under.call x ((rLevel_any a2 x.w).mono (fun e w' h => And.intro h.1 (h.2 ▸ Below.refl _ _)))
        have hu0 := hc0.lt
        have hu1 := hc1.lt
        have p0 := fun x : Under v4 => (x.below.cell (p := ⟨w.heap.size, 0, none⟩) hu0).trans (hc0.cell 0 _ rfl)
        have p1 := fun x : Under v4 => (x.below.cell (p := ⟨w.heap.size, 1, none⟩) hu0).trans (hc0.cell 1 _ rfl)
        have p2 := fun x : Under v4 => (x.below.cell (p := ⟨w.heap.size, 2, none⟩) hu0).trans (hc0.cell 2 _ rfl)
        have q0 := fun x : Under v4 => (x.below.cell (p := ⟨w.heap.size + 1, 0, none⟩) hu1).trans (hc1.cell 0 _ rfl)
        have q1 := fun x : Under v4 => (x.below.cell (p := ⟨w.heap.size + 1, 1, none⟩) hu1).trans (hc1.cell 1 _ rfl)
        have q2 := fun x : Under v4 => (x.below.cell (p := ⟨w.heap.size + 1, 2, none⟩) hu1).trans (hc1.cell 2 _ rfl)
        simp only [vX] at hS hR
        clear hb hv0 hv1
        generalize lvN a2 = lv at *
        refine wp_region_under v4 (by kernel_rfl) (by kernel_rfl) (Below.refl _ _) ?_
        repeat (go_big_quiet_step ((first | (go_at_call 11; with_reducible exact hS _) | (go_at_call 9; with_reducible exact hR _) | (go_at_call 8; with_reducible exact hL _) | (go_at_call 12; with_reducible exact hM _))))
        refine wpQuiet_nil ?_
        rintro _ ⟨x, rfl⟩
        have HB5 := Lib.hid (HB4.out.trans (x.below.mono HB4.out.size))
        clear p0 p1 p2 q0 q1 q2 hS hR hL hM
        go_wp2
        go_ret
        exact ⟨by simp, HB5.out⟩
end Go.Proofs.YtjlikcfabekhlaaDoor

/- Of two signs between three names (layer 12). -/
namespace Go.Proofs.YtjlikcfabekhlaaDoor
open Go.RowKit Go.Tab

set_option maxHeartbeats 2000000 in
set_option maxRecDepth 100000 in
theorem named_any (s : ByteArray) (w : World) : Calls Tryd.prog 7 #[.string s] w fun e w' => e = .returned (exV oName s (.slice none 0 0)) ∧ Below w.heap.size w w' := by
  have hq := Cells.new w #[.string oName, .string s, .slice none 0 0] 26
  have hx := hq.cell 0 _ rfl
  have hy := hq.cell 1 _ rfl
  have hz := hq.cell 2 _ rfl
  go_enter Tryd.func7, Tryd.ntmps7
  go_wp2
  refine bodyPost_ret (v := .agg #[.string oName, .string s, .slice none 0 0]) (by simp [results, Tryd.results7, go_sem, hx, hy, hz]) rfl ?_
  exact ⟨rfl, (Below.refl _ w).alloc (Nat.le_refl _) _⟩
theorem leafX (w : World) (o s : ByteArray) : ExpAt w (.mk o s []) [.string o, .string s, .slice none 0 0] := by
  simp only [ExpAt]
  exact ⟨none, 0, rfl, Nat.le_refl _, Nat.zero_le _, fun _ => rfl, fun x hx => by cases hx⟩
/-- Two kids that lie in one block. -/
theorem node2 {w : World} {g : Nat} {o t o1 t1 o2 t2 : ByteArray} {v1 v2 : Value} {a b : Exp} (hk : Cells w g #[.string o1, .string t1, v1, .string o2, .string t2, v2] 26)
    (ha : ExpAt w a [.string o1, .string t1, v1]) (hb : ExpAt w b [.string o2, .string t2, v2]) : ExpAt w (.mk o t [a, b]) [.string o, .string t, .slice (some ⟨g, 0, none⟩) 2 2] := by
  simp only [ExpAt]
  refine ⟨some ⟨g, 0, none⟩, 2, rfl, Nat.le_refl _, by decide, (fun h => by cases h), fun x hx _ => ?_⟩
  cases hx
  refine ⟨rfl, hk.lt, ?_⟩
  simp only [ExpsAt]
  refine ⟨⟨_, fun j u hu => ?_, ha⟩, ⟨_, fun j u hu => ?_, hb⟩, trivial⟩
  · match j with
    | 0 => simp at hu; subst hu; exact hk.cell 0 _ rfl
    | 1 => simp at hu; subst hu; exact hk.cell 1 _ rfl
    | 2 => simp at hu; subst hu; exact hk.cell 2 _ rfl
    | j + 3 => simp at hu
  · match j with
    | 0 => simp at hu; subst hu; exact hk.cell 3 _ rfl
    | 1 => simp at hu; subst hu; exact hk.cell 4 _ rfl
    | 2 => simp at hu; subst hu; exact hk.cell 5 _ rfl
    | j + 3 => simp at hu
theorem u8_nat {a : Int} (h : (Lit.int .u8 a).wf = true) : ∃ n : Nat, a = (n : Int) ∧ n < 256 := by
  rw [Lit.wf, Bool.and_eq_true, decide_eq_true_eq, decide_eq_true_eq] at h
  have e1 : IntKind.u8.min = 0 := rfl
  have e2 : IntKind.u8.max = 255 := rfl
  exact ⟨a.toNat, by omega, by omega⟩
set_option maxHeartbeats 4000000 in
set_option maxRecDepth 100000 in
theorem ExprLevels_walk (a0 : Int) (a1 : Int) (w : World) (w0 : (Lit.int .u8 a0).wf = true) (w1 : (Lit.int .u8 a1).wf = true) (hT : LexT w) :
    Calls Tryd.prog 3 #[.int .u8 a0, .int .u8 a1] w fun e w' => e = .returned (.bool true) ∧ Below w.heap.size w w' := by
  obtain ⟨n, rfl, hn⟩ := u8_nat w0
  obtain ⟨m, rfl, hm⟩ := u8_nat w1
  obtain ⟨i, hi⟩ : ∃ i, n % 13 = i := ⟨_, rfl⟩
  obtain ⟨j, hj⟩ : ∃ j, m % 13 = j := ⟨_, rfl⟩
  have hi13 : i < 13 := by omega
  have hj13 : j < 13 := by omega
  have t1 : (n : Int).tmod 13 = (i : Int) := by rw [Int.tmod_eq_emod_of_nonneg (by omega)]; omega
  have t2 : (n : Int) % 13 = (i : Int) := by omega
  have t3 : (m : Int).tmod 13 = (j : Int) := by rw [Int.tmod_eq_emod_of_nonneg (by omega)]; omega
  have t4 : (m : Int) % 13 = (j : Int) := by omega
  have hW := wakes_any w hT
  clear w0 w1
  go_enter Tryd.func3, Tryd.ntmps3
  go_wp2_with fail
  refine hW.mono ?_
  rintro _ v2 ⟨rfl, hb2⟩
  clear hW hi hj
  have hT2 := hT.below hb2
  go_wp2_with fail
  have hcl := Cells.new v2 #[.string ⟨#[124, 124]⟩, .string ⟨#[38, 38]⟩, .string ⟨#[61, 61]⟩, .string ⟨#[33, 61]⟩, .string ⟨#[60]⟩, .string ⟨#[62]⟩, .string ⟨#[60, 61]⟩, .string ⟨#[62, 61]⟩, .string ⟨#[43]⟩, .string ⟨#[45]⟩, .string ⟨#[42]⟩, .string ⟨#[47]⟩, .string ⟨#[37]⟩] 9
  have hget : ∀ k, k < 13 → (v2.alloc (.cells #[.string ⟨#[124, 124]⟩, .string ⟨#[38, 38]⟩, .string ⟨#[61, 61]⟩, .string ⟨#[33, 61]⟩, .string ⟨#[60]⟩, .string ⟨#[62]⟩, .string ⟨#[60, 61]⟩, .string ⟨#[62, 61]⟩, .string ⟨#[43]⟩, .string ⟨#[45]⟩, .string ⟨#[42]⟩, .string ⟨#[47]⟩, .string ⟨#[37]⟩] 9)).cell? ⟨v2.heap.size, k, none⟩ = some (.string (sgK k)) := fun k hk => by
    refine hcl.cell k _ ?_
    have : k = 0 ∨ k = 1 ∨ k = 2 ∨ k = 3 ∨ k = 4 ∨ k = 5 ∨ k = 6 ∨ k = 7 ∨ k = 8 ∨ k = 9 ∨ k = 10 ∨ k = 11 ∨ k = 12 := by omega
    rcases this with rfl | rfl | rfl | rfl | rfl | rfl | rfl | rfl | rfl | rfl | rfl | rfl | rfl <;> rfl
  have gi := hget i hi13
  have gj := hget j hj13
  have hP := par_two hi13 hj13
  have hsz := txt_size hi13 hj13
  have hb3 : Below v2.heap.size v2 (v2.alloc (.cells #[.string ⟨#[124, 124]⟩, .string ⟨#[38, 38]⟩, .string ⟨#[61, 61]⟩, .string ⟨#[33, 61]⟩, .string ⟨#[60]⟩, .string ⟨#[62]⟩, .string ⟨#[60, 61]⟩, .string ⟨#[62, 61]⟩, .string ⟨#[43]⟩, .string ⟨#[45]⟩, .string ⟨#[42]⟩, .string ⟨#[47]⟩, .string ⟨#[37]⟩] 9)) := (Below.refl _ _).alloc (Nat.le_refl _) _
  have hT3 := hT2.below hb3
  have HB3 := Lib.hid (hb2.trans (hb3.mono hb2.size))
  clear hget hcl hb3 hb2 hT2
  generalize v2.alloc (.cells #[.string ⟨#[124, 124]⟩, .string ⟨#[38, 38]⟩, .string ⟨#[61, 61]⟩, .string ⟨#[33, 61]⟩, .string ⟨#[60]⟩, .string ⟨#[62]⟩, .string ⟨#[60, 61]⟩, .string ⟨#[62, 61]⟩, .string ⟨#[43]⟩, .string ⟨#[45]⟩, .string ⟨#[42]⟩, .string ⟨#[47]⟩, .string ⟨#[37]⟩] 9) = v3 at *
  generalize sgK i = p at *
  generalize sgK j = q at *
  go_quiet (fail)
  have hO := of_any (txt2 p q) (v3.drewN nq) (hT3.below (below_draws _ _ _)) (by omega)
  rw [hP] at hO
  have hpq : p.size + q.size ≤ 100 := by unfold txt2 at hsz; simp only [ByteArray.size_append] at hsz; omega
  have HB4 := Lib.hid (HB3.out.trans (below_draws w.heap.size v3 nq))
  clear gi gj hP hT3 t1 t2 t3 t4
  unfold txt2 at hO
  go_wp2_with fail
  refine hO.mono ?_
  rintro _ v5 ⟨hb5, o, t, a, nn, c, rfl, hX⟩
  have hX5 : ExpIn (fun b => b < v5.heap.size) v5 (want2 p q) [.string o, .string t, .slice a nn c] := ExpIn.move (Nat.le_refl _) (fun _ _ _ => rfl) (fun _ _ h => h) _ _ hX
  have HB5 := Lib.hid (HB4.out.trans (hb5.mono HB4.out.size))
  clear hO hb5 hX HB4 HB3
  have hN := fun W s => named_any s W
  go_wp2_with fail
  refine (hN _ _).mono ?_
  rintro _ v7 ⟨rfl, hb7⟩
  go_wp2_with fail
  refine (hN _ _).mono ?_
  rintro _ v8 ⟨rfl, hb8⟩
  go_wp2_with fail
  refine (hN _ _).mono ?_
  rintro _ v10 ⟨rfl, hb10⟩
  go_wp2_with fail
  have hbA : Below v5.heap.size v5 (v5.alloc (.cells #[.string o, .string t, .slice a nn c] 26)) := (Below.refl _ _).alloc (Nat.le_refl _) _
  have hk8 := Cells.new v5 #[.string o, .string t, .slice a nn c] 26
  have hbB : Below v8.heap.size v8 (v8.alloc (.cells #[.string oName, .string ⟨#[120]⟩, .slice none 0 0, .string oName, .string ⟨#[121]⟩, .slice none 0 0] 26)) := (Below.refl _ _).alloc (Nat.le_refl _) _
  have hkB := Cells.new v8 #[.string oName, .string ⟨#[120]⟩, .slice none 0 0, .string oName, .string ⟨#[121]⟩, .slice none 0 0] 26
  have hbC : Below v10.heap.size v10 ((v10.alloc (.cells #[.string p, .string ⟨#[]⟩, .slice (some ⟨v8.heap.size, 0, none⟩) 2 2, .string oName, .string ⟨#[122]⟩, .slice none 0 0] 26)).alloc (.cells #[.string q, .string ⟨#[]⟩, .slice (some ⟨v10.heap.size, 0, none⟩) 2 2] 26)) := ((Below.refl _ _).alloc (Nat.le_refl _) _).alloc (by simp) _
  have hkC := (Cells.new v10 #[.string p, .string ⟨#[]⟩, .slice (some ⟨v8.heap.size, 0, none⟩) 2 2, .string oName, .string ⟨#[122]⟩, .slice none 0 0] 26).alloc (.cells #[.string q, .string ⟨#[]⟩, .slice (some ⟨v10.heap.size, 0, none⟩) 2 2] 26)
  have hk11 := Cells.new (v10.alloc (.cells #[.string p, .string ⟨#[]⟩, .slice (some ⟨v8.heap.size, 0, none⟩) 2 2, .string oName, .string ⟨#[122]⟩, .slice none 0 0] 26)) #[.string q, .string ⟨#[]⟩, .slice (some ⟨v10.heap.size, 0, none⟩) 2 2] 26
  simp only [World.size_alloc] at hk11
  generalize (v10.alloc (.cells #[.string p, .string ⟨#[]⟩, .slice (some ⟨v8.heap.size, 0, none⟩) 2 2, .string oName, .string ⟨#[122]⟩, .slice none 0 0] 26)).alloc (.cells #[.string q, .string ⟨#[]⟩, .slice (some ⟨v10.heap.size, 0, none⟩) 2 2] 26) = v12 at *
  have b57 : Below v5.heap.size v5 v7 := hbA.trans (hb7.mono hbA.size)
  have b58 := b57.trans (hb8.mono b57.size)
  have b5B := b58.trans (hbB.mono b58.size)
  have b510 := b5B.trans (hb10.mono b5B.size)
  have b512 := b510.trans (hbC.mono b510.size)
  have b812 : Below v8.heap.size v8 v12 := (hbB.trans (hb10.mono hbB.size)).trans (hbC.mono (Nat.le_trans hbB.size hb10.size))
  have kB12 := (hkB.below hb10 hkB.lt).below hbC (Nat.lt_of_lt_of_le hkB.lt hb10.size)
  have k812 := (((hk8.below hb7 hk8.lt).below hb8 (Nat.lt_of_lt_of_le hk8.lt hb7.size)).below hbB (Nat.lt_of_lt_of_le hk8.lt (Nat.le_trans hb7.size hb8.size))).below (hb10.trans (hbC.mono hb10.size)) (Nat.lt_of_lt_of_le hk8.lt (Nat.le_trans hb7.size (Nat.le_trans hb8.size hbB.size)))
  have hX12 : ExpIn (fun b => b < v5.heap.size) v12 (want2 p q) [.string o, .string t, .slice a nn c] := ExpIn.move b512.size (fun k hk _ => b512.block k hk) (fun _ h _ => h) _ _ hX5
  have hs5 : v5.heap.size ≤ v10.heap.size := b510.size
  have hsw : w.heap.size ≤ v5.heap.size := HB5.out.size
  have hs8 : v5.heap.size < v8.heap.size + 1 := by have := b58.size; omega
  have HB12 := Lib.hid (HB5.out.trans (b512.mono HB5.out.size))
  clear hbA hbB hbC hb7 hb8 hb10 b57 b58 b5B b510 b512 b812 hkB hk8 hX5 HB5
  have hLq := fun W => Level_any q W
  have hLp := fun W => Level_any p W
  refine (hLq _).mono ?_
  rintro _ _ ⟨rfl, rfl⟩
  go_wp2_with fail
  refine (hLp _).mono ?_
  rintro _ _ ⟨rfl, rfl⟩
  by_cases hlt : lvN p < lvN q
  · have hd : decide (lvN p < lvN q) = true := by simpa using hlt
    have hw : want2 p q = .mk p oNo [nmX 120, .mk q oNo [nmX 121, nmX 122]] := if_pos hlt
    rw [hw] at hX12
    clear hw hlt
    have HK := Lib.hid (And.intro hk11 (And.intro k812 (And.intro hX12 (And.intro hs5 hs8))))
    clear kB12 hkC hk11 k812 hX12 hs5 hs8
    go_wp2_with fail
    refine (hN _ _).mono ?_
    rintro _ v13 ⟨rfl, hb13⟩
    go_wp2_with fail
    refine (hN _ _).mono ?_
    rintro _ v14 ⟨rfl, hb14⟩
    go_wp2_with fail
    refine (hN _ _).mono ?_
    rintro _ v15 ⟨rfl, hb15⟩
    have b1215 := (hb13.trans (hb14.mono hb13.size)).trans (hb15.mono (Nat.le_trans hb13.size hb14.size))
    obtain ⟨hk11, k812, hX12, hs5, hs8⟩ := HK.out
    have k11 := hk11.below b1215 hk11.lt
    have k8 := k812.below b1215 k812.lt
    have hX15 := ExpIn.below b1215 _ _ hX12
    have HB15 := Lib.hid (HB12.out.trans (b1215.mono HB12.out.size))
    have kA := (Cells.new v15 #[.string oName, .string ⟨#[121]⟩, .slice none 0 0, .string oName, .string ⟨#[122]⟩, .slice none 0 0] 26).alloc (.cells #[.string oName, .string ⟨#[120]⟩, .slice none 0 0, .string q, .string ⟨#[]⟩, .slice (some ⟨v15.heap.size, 0, none⟩) 2 2] 26)
    have kB := Cells.new (v15.alloc (.cells #[.string oName, .string ⟨#[121]⟩, .slice none 0 0, .string oName, .string ⟨#[122]⟩, .slice none 0 0] 26)) #[.string oName, .string ⟨#[120]⟩, .slice none 0 0, .string q, .string ⟨#[]⟩, .slice (some ⟨v15.heap.size, 0, none⟩) 2 2] 26
    have k11a := (k11.alloc (.cells #[.string oName, .string ⟨#[121]⟩, .slice none 0 0, .string oName, .string ⟨#[122]⟩, .slice none 0 0] 26)).alloc (.cells #[.string oName, .string ⟨#[120]⟩, .slice none 0 0, .string q, .string ⟨#[]⟩, .slice (some ⟨v15.heap.size, 0, none⟩) 2 2] 26)
    have k8a := (k8.alloc (.cells #[.string oName, .string ⟨#[121]⟩, .slice none 0 0, .string oName, .string ⟨#[122]⟩, .slice none 0 0] 26)).alloc (.cells #[.string oName, .string ⟨#[120]⟩, .slice none 0 0, .string q, .string ⟨#[]⟩, .slice (some ⟨v15.heap.size, 0, none⟩) 2 2] 26)
    have hbW : Below v15.heap.size v15 ((v15.alloc (.cells #[.string oName, .string ⟨#[121]⟩, .slice none 0 0, .string oName, .string ⟨#[122]⟩, .slice none 0 0] 26)).alloc (.cells #[.string oName, .string ⟨#[120]⟩, .slice none 0 0, .string q, .string ⟨#[]⟩, .slice (some ⟨v15.heap.size, 0, none⟩) 2 2] 26)) := ((Below.refl _ _).alloc (Nat.le_refl _) _).alloc (by simp) _
    have hl11 : v10.heap.size + 1 < v15.heap.size := k11.lt
    have hl8 : v5.heap.size < v15.heap.size := k8.lt
    simp only [World.size_alloc] at kB
    have hX17 := ExpIn.move (w' := setAll ((v15.alloc (.cells #[.string oName, .string ⟨#[121]⟩, .slice none 0 0, .string oName, .string ⟨#[122]⟩, .slice none 0 0] 26)).alloc (.cells #[.string oName, .string ⟨#[120]⟩, .slice none 0 0, .string q, .string ⟨#[]⟩, .slice (some ⟨v15.heap.size, 0, none⟩) 2 2] 26)) (v10.heap.size + 1) 0 [.string p, .string oNo, .slice (some ⟨v15.heap.size + 1, 0, none⟩) 2 2]) (by rw [setAll_size]; exact hbW.size) (fun k hk _ => by rw [setAll_other _ _ _ _ _ (by omega)]; exact hbW.block k (by omega)) (fun _ h _ => h) _ _ hX15
    have kAw := kA.setAllOther (B := v10.heap.size + 1) (o := 0) (l := [.string p, .string oNo, .slice (some ⟨v15.heap.size + 1, 0, none⟩) 2 2]) (by omega)
    have kBw := kB.setAllOther (B := v10.heap.size + 1) (o := 0) (l := [.string p, .string oNo, .slice (some ⟨v15.heap.size + 1, 0, none⟩) 2 2]) (by omega)
    have hWant : ExpAt (setAll ((v15.alloc (.cells #[.string oName, .string ⟨#[121]⟩, .slice none 0 0, .string oName, .string ⟨#[122]⟩, .slice none 0 0] 26)).alloc (.cells #[.string oName, .string ⟨#[120]⟩, .slice none 0 0, .string q, .string ⟨#[]⟩, .slice (some ⟨v15.heap.size, 0, none⟩) 2 2] 26)) (v10.heap.size + 1) 0 [.string p, .string oNo, .slice (some ⟨v15.heap.size + 1, 0, none⟩) 2 2]) (.mk p oNo [nmX 120, .mk q oNo [nmX 121, nmX 122]]) [.string p, .string oNo, .slice (some ⟨v15.heap.size + 1, 0, none⟩) 2 2] := by
      refine node2 kBw (leafX _ _ _) (node2 kAw (leafX _ _ _) (leafX _ _ _))
    have hS := SameP.fix (b := true) (yes_iff rfl) (rSame_any _ _ _ _ _ (ExpIn.at _ _ hX17) hWant)
    have HBW := Lib.hid (setAll_below (v10.heap.size + 1) w.heap.size (by omega) [.string p, .string oNo, .slice (some ⟨v15.heap.size + 1, 0, none⟩) 2 2] 0 _ _ (HB15.out.trans (hbW.mono HB15.out.size)))
    clear hX17 kAw kBw hWant kA kB hbW b1215 hk11 k812 k11 k8 hX15 hX12 hb13 hb14 hb15 HK
    have k11ac0 := k11a.cell 0 _ rfl
    have k11af0 := k11a.frozen 0
    have k11ac1 := k11a.cell 1 _ rfl
    have k11af1 := k11a.frozen 1
    have k11ac2 := k11a.cell 2 _ rfl
    have k11af2 := k11a.frozen 2
    have k8ac0 := k8a.cell 0 _ rfl
    have k8af0 := k8a.frozen 0
    have k8ac1 := k8a.cell 1 _ rfl
    have k8af1 := k8a.frozen 1
    have k8ac2 := k8a.cell 2 _ rfl
    have k8af2 := k8a.frozen 2
    clear k11a k8a
    simp only [vX, setAll] at hS
    go_wp2_with fail
    refine hS.mono ?_
    rintro _ v18 ⟨rfl, hb18⟩
    have HB18 := Lib.hid (HBW.out.trans (hb18.mono HBW.out.size))
    clear hS hb18
    go_wp2_with fail
    go_ret
    exact ⟨rfl, HB18.out⟩
  · have hd : decide (lvN p < lvN q) = false := by simpa using hlt
    have hw : want2 p q = .mk q oNo [.mk p oNo [nmX 120, nmX 121], nmX 122] := if_neg hlt
    rw [hw] at hX12
    have hWant : ExpAt v12 (.mk q oNo [.mk p oNo [nmX 120, nmX 121], nmX 122]) [.string q, .string oNo, .slice (some ⟨v10.heap.size, 0, none⟩) 2 2] := node2 hkC (node2 kB12 (leafX _ _ _) (leafX _ _ _)) (leafX _ _ _)
    have hS := SameP.fix (b := true) (yes_iff rfl) (rSame_any _ _ _ _ _ (ExpIn.at _ _ hX12) hWant)
    clear hw hlt hX12 hWant hkC kB12 hs5 hs8
    have hk11c0 := hk11.cell 0 _ rfl
    have hk11f0 := hk11.frozen 0
    have hk11c1 := hk11.cell 1 _ rfl
    have hk11f1 := hk11.frozen 1
    have hk11c2 := hk11.cell 2 _ rfl
    have hk11f2 := hk11.frozen 2
    have k812c0 := k812.cell 0 _ rfl
    have k812f0 := k812.frozen 0
    have k812c1 := k812.cell 1 _ rfl
    have k812f1 := k812.frozen 1
    have k812c2 := k812.cell 2 _ rfl
    have k812f2 := k812.frozen 2
    clear hk11 k812
    simp only [vX] at hS
    go_wp2_with fail
    refine hS.mono ?_
    rintro _ v18 ⟨rfl, hb18⟩
    have HB18 := Lib.hid (HB12.out.trans (hb18.mono HB12.out.size))
    clear hS hb18
    go_wp2_with fail
    go_ret
    exact ⟨rfl, HB18.out⟩
end Go.Proofs.YtjlikcfabekhlaaDoor

/- What a row's list of laid variables gives, entry by entry, over any program: a table of numbers, a table of tables, an error's place. -/
namespace Go.Tab
open Go.Lib

/-- An entry of the list: its variable reads as the datum. -/
def LaidAt (P : Program) (W : World) (n : String) (d : DataW Unit) : Prop :=
  ∃ g t cs fuel p, P.globalNamed n = some g ∧ (P.globals[g]?).map (·.type) = some t ∧ W.var? P n = some cs ∧ DataW.trod (fun _ => ()) P W 0 (fun _ => true) false fuel t cs.toList = some (d, p)
theorem laid_vars {P : Program} {W : World} : ∀ {L : List (String × DataW Unit)} {ps : List MemPlace}, DataW.LaidVars P W L ps → ∀ n d, (n, d) ∈ L → LaidAt P W n d
  | [], _, _, _, _, h => by cases h
  | (n', d') :: L, _, h0, n, d, h => by
    obtain ⟨g, t, cs, fuel, p, q, h1, h2, h3, h4, h5, _⟩ := h0
    rcases List.mem_cons.1 h with h | h
    · cases h; exact ⟨g, t, cs, fuel, p, h1, h2, h3, h4⟩
    · exact laid_vars h5 n d h
theorem laid_of_met {P : Program} {W : World} {L : List (String × DataW Unit)} (h : laidMet P L W) {n : String} {d : DataW Unit} (hm : (n, d) ∈ L) : LaidAt P W n d := by
  obtain ⟨ps, h1, _⟩ := h
  exact laid_vars h1 n d hm
/-- A table of numbers. -/
theorem LaidAt.tab {P : Program} {W : World} {name : String} {k : IntKind} {zs : List Int} {g : Nat} {t e : TypeId} {n : Nat}
    (hg : P.globalNamed name = some g) (hty : (P.globals[g]?).map (·.type) = some t) (ht : P.underlying t = some (.array n e)) (he : P.underlying e = some (.int k)) (hce : P.cellsOf e = 1) (hct : P.cellsOf t = n)
    (h : LaidAt P W name (tabData k zs)) : TabIs P W name k zs := by
  obtain ⟨g', t', cs, fuel, p, hg', ht', hvar, hd⟩ := h
  obtain rfl := Option.some.inj (hg.symm.trans hg')
  obtain rfl := Option.some.inj (hty.symm.trans ht')
  unfold TabIs
  rw [hvar, ← cells_of_tab ht he hce hct hd]
/-- An array of arrays of numbers that reads as the table's rows. -/
theorem cells_of_tabs {H : Type} {enc : TypeId × Value → H} {P : Program} {w : World} {base : Nat} {sp : Nat → Bool} {held : Bool} {fuel : Nat} {t e i : TypeId} {n m : Nat} {k : IntKind} {cs : List Value} {zss : List (List Int)} {p : List MemPlace}
    (ht : P.underlying t = some (.array n e)) (he : P.underlying e = some (.array m i)) (hi : P.underlying i = some (.int k)) (hci : P.cellsOf i = 1) (hce : P.cellsOf e = m) (hct : P.cellsOf t = n * m)
    (h : DataW.trod enc P w base sp held fuel t cs = some (.agg (zss.map fun zs => tabData k zs), p)) : ∀ a (ha : a < zss.length), ((cs.drop (a * m)).take m) = zss[a].map fun z => Value.int k z := by
  cases fuel with
  | zero => simp [DataW.trod] at h
  | succ fuel =>
    simp only [DataW.trod, ht, hce] at h
    split at h
    · rename_i hl
      obtain ⟨xs, hm, hx⟩ := Option.map_eq_some_iff.1 h
      have hxs : xs.map (·.1) = zss.map fun zs => (tabData k zs : DataW H) := by
        have := congrArg Prod.fst hx
        simpa using this
      have hxl : xs.length = n := by simpa using mapM_length hm
      have hzl : zss.length = n := by
        have := congrArg List.length hxs
        simp at this
        omega
      intro a ha
      obtain ⟨b, hb, hf⟩ := mapM_at hm a a (by simp [hzl ▸ ha])
      have h2 : (xs.map (·.1))[a]? = some b.1 := by simp [hb]
      rw [hxs] at h2
      simp only [List.getElem?_map] at h2
      rw [List.getElem?_eq_getElem ha] at h2
      have h3 : b.1 = tabData k zss[a] := (Option.some.inj h2).symm
      have h4 : DataW.trod enc P w base sp held fuel e ((cs.drop (a * m)).take m) = some (tabData k zss[a], b.2) := by rw [hf, ← h3]
      exact cells_of_tab he hi hci hce h4
    · cases h
/-- A table of tables: what a walk reads at a place of it. -/
theorem LaidAt.tabs {P : Program} {W : World} {name : String} {k : IntKind} {zss : List (List Int)} {g : Nat} {t e i : TypeId} {n m : Nat}
    (hg : P.globalNamed name = some g) (hty : (P.globals[g]?).map (·.type) = some t) (ht : P.underlying t = some (.array n e)) (he : P.underlying e = some (.array m i)) (hi : P.underlying i = some (.int k)) (hci : P.cellsOf i = 1) (hce : P.cellsOf e = m) (hct : P.cellsOf t = n * m)
    (h : LaidAt P W name (.agg (zss.map fun zs => tabData k zs))) (a b : Nat) (ha : a < zss.length) (hb : b < zss[a].length) (hbm : b < m) : W.cell? ⟨g, a * m + b, none⟩ = some (.int k zss[a][b]) := by
  obtain ⟨g', t', cs, fuel, p, hg', ht', hvar, hd⟩ := h
  obtain rfl := Option.some.inj (hg.symm.trans hg')
  obtain rfl := Option.some.inj (hty.symm.trans ht')
  have h1 := cells_of_tabs ht he hi hci hce hct hd a ha
  have h2 : cs[a * m + b]? = some (.int k zss[a][b]) := by
    have := congrArg (·[b]?) h1
    simp only [List.getElem?_take, List.getElem?_drop, List.getElem?_map] at this
    rw [if_pos hbm, List.getElem?_eq_getElem hb] at this
    simpa using this
  have h3 := World.var?_cell hg hvar (a * m + b)
  rw [h3, h2]
/-- A variable of an interface type that holds a value. -/
theorem LaidAt.iface {P : Program} {W : World} {name : String} {s : String} {x : DataW Unit} {g : Nat} {t : TypeId} {ms : Array (String × TypeId)}
    (hg : P.globalNamed name = some g) (hty : (P.globals[g]?).map (·.type) = some t) (ht : P.underlying t = some (.interface ms))
    (h : LaidAt P W name (.iface s x)) : ∃ tp p, W.var? P name = some #[.iface tp p] := by
  obtain ⟨g', t', cs, fuel, p, hg', ht', hvar, hd⟩ := h
  obtain rfl := Option.some.inj (hg.symm.trans hg')
  obtain rfl := Option.some.inj (hty.symm.trans ht')
  cases fuel with
  | zero => simp [DataW.trod] at hd
  | succ fuel =>
    unfold DataW.trod at hd
    simp only [ht] at hd
    have hcs : ∃ u v, cs.toList = [.iface u v] := by
      split at hd
      all_goals first | (simp at hd; done) | skip
      all_goals first | (rename_i hm; simp at hm; done) | skip
      all_goals first | exact ⟨_, _, ‹_›⟩ | simp_all
    obtain ⟨u, v, hcs⟩ := hcs
    refine ⟨u, v, ?_⟩
    rw [hvar]
    congr 1
    exact Array.toList_inj.1 hcs
end Go.Tab
namespace Go.Tab
/-- The list, where no entry is a function's handle. -/
theorem met_of {P : Program} {L : List (String × DataW Unit)} {W : World} (h : laidMetH P L W) (hf : (L.filter fun x => x.2.handleName?.isSome) = []) : laidMet P L W := by
  unfold laidMetH at h
  rw [hf] at h
  exact h
/-- A datum's cells, where it is made of numbers alone. -/
def flatD : Nat → DataW Unit → List Value
  | 0, _ => []
  | _ + 1, .lit (.int k z) => [.int k z]
  | n + 1, .agg xs => xs.flatMap (flatD n)
  | _, _ => []
/-- A heap in which a listed variable is laid. -/
def layVar (P : Program) (h : Array Obj) (nd : String × DataW Unit) : Array Obj :=
  match P.globalNamed nd.1, flatD 4 nd.2 with
  | some g, v :: vs => h.modify g fun o => match o with
    | .cells _ t f => .cells (v :: vs).toArray t f
    | o => o
  | _, _ => h
def layAll (P : Program) (L : List (String × DataW Unit)) (h : Array Obj) : Array Obj := L.foldl (layVar P) h
end Go.Tab

/- What a row's list of laid variables gives, over any program: a table of texts; a heap in which numbers and texts are laid. -/
namespace Go.Tab
open Go.Lib

/-- An array of texts that reads as the table holds the table's texts, cell for cell. -/
theorem cells_of_strs {H : Type} {enc : TypeId × Value → H} {P : Program} {w : World} {base : Nat} {sp : Nat → Bool} {held : Bool} {fuel : Nat} {t e : TypeId} {n : Nat} {cs : List Value} {zs : List (List UInt8)} {p : List MemPlace}
    (ht : P.underlying t = some (.array n e)) (he : P.underlying e = some .string) (hce : P.cellsOf e = 1) (hct : P.cellsOf t = n)
    (h : DataW.trod enc P w base sp held fuel t cs = some (.agg (zs.map fun z => (.lit (.string z) : DataW H)), p)) : ∀ i (hi : i < zs.length), cs[i]? = some (Value.string ⟨zs[i].toArray⟩) := by
  cases fuel with
  | zero => simp [DataW.trod] at h
  | succ fuel =>
    simp only [DataW.trod, ht, hce, hct, Nat.mul_one] at h
    split at h
    · rename_i hl
      obtain ⟨xs, hm, hx⟩ := Option.map_eq_some_iff.1 h
      have hxs : xs.map (·.1) = zs.map fun z => (DataW.lit (.string z) : DataW H) := by
        have := congrArg Prod.fst hx
        simpa using this
      have hxl : xs.length = n := by simpa using mapM_length hm
      have hzl : zs.length = n := by
        have := congrArg List.length hxs
        simp at this
        omega
      intro i hi
      obtain ⟨b, hb, hf⟩ := mapM_at hm i i (by simp [hzl ▸ hi])
      obtain ⟨s, hc, rfl, _⟩ := DataW.trod_string he hf
      have h1 : cs[i]? = some (.string s) := by
        have := congrArg (·[0]?) hc
        simpa [List.getElem?_take, List.getElem?_drop] using this
      have h2 : (xs.map (·.1))[i]? = some (DataW.lit (.string s.data.toList) : DataW H) := by simp [hb]
      rw [hxs] at h2
      simp only [List.getElem?_map, List.getElem?_eq_getElem hi, Option.map_some, Option.some.injEq, DataW.lit.injEq, Lit.string.injEq] at h2
      rw [h1, h2]
    · cases h
theorem LaidAt.strs {P : Program} {W : World} {name : String} {zs : List (List UInt8)} {g : Nat} {t e : TypeId} {n : Nat}
    (hg : P.globalNamed name = some g) (hty : (P.globals[g]?).map (·.type) = some t) (ht : P.underlying t = some (.array n e)) (he : P.underlying e = some .string) (hce : P.cellsOf e = 1) (hct : P.cellsOf t = n)
    (h : LaidAt P W name (.agg (zs.map fun z => .lit (.string z)))) (i : Nat) (hi : i < zs.length) : W.cell? ⟨g, i, none⟩ = some (.string ⟨zs[i].toArray⟩) := by
  obtain ⟨g', t', cs, fuel, p, hg', ht', hvar, hd⟩ := h
  obtain rfl := Option.some.inj (hg.symm.trans hg')
  obtain rfl := Option.some.inj (hty.symm.trans ht')
  have h2 := cells_of_strs ht he hce hct hd i hi
  have h3 := World.var?_cell hg hvar i
  rw [h3]
  simpa using h2
/-- A datum's cells, where it is made of numbers and texts. -/
def flatS : Nat → DataW Unit → List Value
  | 0, _ => []
  | _ + 1, .lit (.int k z) => [.int k z]
  | _ + 1, .lit (.string s) => [.string ⟨s.toArray⟩]
  | n + 1, .agg xs => xs.flatMap (flatS n)
  | _, _ => []
def layVarS (P : Program) (h : Array Obj) (nd : String × DataW Unit) : Array Obj :=
  match P.globalNamed nd.1, flatS 4 nd.2 with
  | some g, v :: vs => h.modify g fun o => match o with
    | .cells _ t f => .cells (v :: vs).toArray t f
    | o => o
  | _, _ => h
def layAllS (P : Program) (L : List (String × DataW Unit)) (h : Array Obj) : Array Obj := L.foldl (layVarS P) h
end Go.Tab

/- What the rows' lists of layers 12 and up give: the tables that the lexer reads (layer 12). -/
namespace Go.Proofs.YtjlikcfabekhlaaDoor
open Go.RowKit Go.Tab

def stepsZ : List (List Int) := [[1, 9, 2, 3, 9, 9, 9], [9, 9, 2, 3, 9, 9, 9], [9, 9, 9, 9, 4, 6, 9], [9, 9, 3, 3, 4, 6, 9], [9, 9, 5, 5, 9, 9, 9], [9, 9, 5, 5, 9, 6, 9], [7, 7, 8, 8, 9, 9, 9], [9, 9, 8, 8, 9, 9, 9], [9, 9, 8, 8, 9, 9, 9]]
theorem steps_are : ∀ j : Fin 63, ((stepsZ.getD (j.val / 7) []).getD (j.val % 7) 0) = ((stepsN.getD j.val 9 : Nat) : Int) := by decide +kernel
theorem gSteps : Tryd.prog.globalNamed "tabularium/num.steps" = some 2 := by kernel_rfl
theorem tSteps : (Tryd.prog.globals[2]?).map (·.type) = some 83 := by kernel_rfl
theorem c1 : Tryd.prog.cellsOf 3 = 1 := by kernel_rfl
theorem c7 : Tryd.prog.cellsOf 82 = 7 := by kernel_rfl
theorem c63 : Tryd.prog.cellsOf 83 = 9 * 7 := by kernel_rfl
theorem dSteps : (Rows.laid_tabularium_num_steps : DataW Unit) = .agg (stepsZ.map fun zs => Lib.tabData .i64 zs) := by kernel_rfl
theorem rows7 : ∀ a : Fin 9, (stepsZ.getD a.val []).length = 7 := by decide +kernel
theorem gTab : Tryd.prog.globalNamed "tabularium/utf.sizes" = some 3 := by kernel_rfl
theorem gTabType : (Tryd.prog.globals[3]?).map (·.type) = some 122 := by kernel_rfl
theorem cellsTab : Tryd.prog.cellsOf 122 = 32 := by kernel_rfl
def sizesZ : List Int := [1, 1, 1, 1, 1, 1, 1, 1, 1, 1, 1, 1, 1, 1, 1, 1, 0, 0, 0, 0, 0, 0, 0, 0, 2, 2, 2, 2, 3, 3, 4, 0]
theorem sizes_are : ∀ j : Fin 32, sizesZ.getD j.val 0 = ((sizeOf8 (8 * j.val) : Nat) : Int) := by decide +kernel
theorem dSizes : (Rows.laid_tabularium_utf_sizes : DataW Unit) = Lib.tabData .i64 sizesZ := by kernel_rfl
theorem gDbl : Tryd.prog.globalNamed "tabularium/lex.doubles" = some 0 := by kernel_rfl
theorem tDbl : (Tryd.prog.globals[0]?).map (·.type) = some 81 := by kernel_rfl
theorem cStr1 : Tryd.prog.cellsOf 9 = 1 := by kernel_rfl
theorem c6 : Tryd.prog.cellsOf 81 = 6 := by kernel_rfl
theorem dDbl : (Rows.laid_tabularium_lex_doubles : DataW Unit) = .agg (dbls.map fun z => .lit (.string z)) := by kernel_rfl
theorem dbl6 : dbls.length = 6 := by decide +kernel
theorem lexT_of {L : List (String × DataW Unit)} {W : World} (hL : laidMetH Tryd.prog L W) (hf : (L.filter fun x => x.2.handleName?.isSome) = []) (hsh : W.ShapedOpen Tryd.prog)
    (h1 : ("tabularium/utf.sizes", Rows.laid_tabularium_utf_sizes) ∈ L) (h2 : ("tabularium/num.steps", Rows.laid_tabularium_num_steps) ∈ L) (h3 : ("tabularium/lex.doubles", Rows.laid_tabularium_lex_doubles) ∈ L) : LexT W := by
  have met := met_of hL hf
  have l1 := laid_of_met met h1
  have l2 := laid_of_met met h2
  have l3 := laid_of_met met h3
  rw [dSizes] at l1
  rw [dSteps] at l2
  rw [dDbl] at l3
  refine ⟨fun j hj => ?_, fun j hj => ?_, fun j hj => ?_, ?_⟩
  · have t := l1.tab gTab gTabType Tryd.underlying122 Tryd.underlying3 c1 cellsTab
    have hc := t.cell gTab j (by simpa [sizesZ] using hj)
    rw [hc, show sizesZ.getD j 0 = _ from sizes_are ⟨j, hj⟩]
  · have ha : j / 7 < stepsZ.length := by show j / 7 < 9; omega
    have hg : stepsZ.getD (j / 7) [] = stepsZ[j / 7] := by rw [List.getD_eq_getElem?_getD, List.getElem?_eq_getElem ha]; rfl
    have hr := rows7 ⟨j / 7, ha⟩
    simp only [hg] at hr
    have hb : j % 7 < (stepsZ[j / 7]).length := by rw [hr]; omega
    have h3 := l2.tabs gSteps tSteps Tryd.underlying83 Tryd.underlying82 Tryd.underlying3 c1 c7 c63 (j / 7) (j % 7) ha hb (by omega)
    rw [show j / 7 * 7 + j % 7 = j by omega] at h3
    rw [h3]
    have h4 := steps_are ⟨j, hj⟩
    simp only [hg] at h4
    rw [List.getD_eq_getElem?_getD, List.getElem?_eq_getElem hb] at h4
    rw [← h4]
    rfl
  · have h := l3.strs gDbl tDbl Tryd.underlying81 Tryd.underlying9 cStr1 c6 j (by rw [dbl6]; exact hj)
    rw [h, List.getD_eq_getElem?_getD, List.getElem?_eq_getElem (by rw [dbl6]; exact hj)]
    rfl
  · exact cell_of_shapedOpen_int (t := 3) (zero := #[.int .i64 0]) hsh (by decide +kernel) (by kernel_rfl) rfl (by kernel_rfl) (by kernel_rfl) Tryd.underlying3
theorem tab_of_ExprSame {W : World} (hL : laidMetH Tryd.prog Rows.exprSameRow.laid W) (hsh : W.ShapedOpen Tryd.prog) : LexT W := lexT_of hL (by kernel_rfl) hsh (.tail _ (.head _)) (.tail _ (.tail _ (.head _))) (.tail _ (.tail _ (.tail _ (.head _))))
theorem tab_of_ExprLevels {W : World} (hL : laidMetH Tryd.prog Rows.exprLevelsRow.laid W) (hsh : W.ShapedOpen Tryd.prog) : LexT W := lexT_of hL (by kernel_rfl) hsh (.tail _ (.head _)) (.tail _ (.tail _ (.head _))) (.tail _ (.tail _ (.tail _ (.head _))))
end Go.Proofs.YtjlikcfabekhlaaDoor
