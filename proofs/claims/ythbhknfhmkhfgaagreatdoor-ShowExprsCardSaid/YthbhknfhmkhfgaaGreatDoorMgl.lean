/- Texts of this claim, one behind the other: RoF, RoG, PnF, PnG, LxR, NuX, NumB, NuW. -/
import Derived.Test.YthbhknfhmkhfgaaGreatDoorMga
import Derived.Test.YthbhknfhmkhfgaaGreatDoorMgb
import Derived.Test.YthbhknfhmkhfgaaGreatDoorMgc
import Derived.Test.YthbhknfhmkhfgaaGreatDoorMgf
import Derived.Test.YthbhknfhmkhfgaaGreatDoorMgg
import Derived.Test.YthbhknfhmkhfgaaGreatDoorMgj
import Derived.Test.YthbhknfhmkhfgaaGreatDoorMgk
set_option linter.unusedSimpArgs false
set_option linter.unusedVariables false
namespace Go.Proofs.YthbhknfhmkhfgaaGreatDoor
set_option maxRecDepth 100000
set_option maxHeartbeats 20000000
open Go.RowKit Go.Tab
section
variable (w : World) (o t : ByteArray) (a : Option Addr) (k c : Nat)
theorem of_quest (text : ByteArray) (e0 e1 e2 : Exp) (hE0 : OfC e0) (hE1 : OfC e1) (hE2 : OfC e2) (hX : ExpAt w (.mk sQ text [e0, e1, e2]) (expV o t (.slice a k c))) (hw : wt (pcX (.mk sQ text [e0, e1, e2])) <= 500000) :
  Calls Tryz.prog 16 #[exV o t (.slice a k c)] w (OfP (pcX (.mk sQ text [e0, e1, e2])) (brX (.mk sQ text [e0, e1, e2])) w) := by
 obtain ⟨rfl, rfl, a', c', hsl, hkc, hcm⟩ := exp_top hX; cases hsl
 rw [pc_choice] at hw ⊢; rw [show brX (.mk sQ t [e0, e1, e2]) = brkN 1 (lvN e0.op, brX e0) + (brX e1 + brX e2) from rfl]; obtain ⟨b0, off0, ko0, kt0, ka0, kn0, kc0, he0, hlt0, hq0, hX0, -⟩ := kid_cells hX (i := 0) (by simp)
 simp only [Nat.reduceMul, Nat.zero_mul, Nat.one_mul, Nat.add_zero] at hq0; obtain ⟨b1, off1, ko1, kt1, ka1, kn1, kc1, he1, hlt1, hq1, hX1, -⟩ := kid_cells hX (i := 1) (by simp)
 simp only [Nat.reduceMul, Nat.zero_mul, Nat.one_mul, Nat.add_zero] at hq1; obtain ⟨b2, off2, ko2, kt2, ka2, kn2, kc2, he2, hlt2, hq2, hX2, -⟩ := kid_cells hX (i := 2) (by simp)
 simp only [Nat.reduceMul, Nat.zero_mul, Nat.one_mul, Nat.add_zero] at hq2; subst he0; cases he1
 cases he2
 have hw0 : wt (brk 1 (lvN e0.op, pcX e0)) <= 500000 := by simp only [wt_some, wt_none, wt_app, wt_nil] at hw; omega
 have hw1 : wt (pcX e1) <= 500000 := by simp only [wt_some, wt_none, wt_app, wt_nil] at hw; omega
 have hw2 : wt (pcX e2) <= 500000 := by simp only [wt_some, wt_none, wt_app, wt_nil] at hw; omega
 have hp0 := fun (W : World) (hW : Below w.heap.size w W) => rLeast_any hE0 W ko0 kt0 ka0 kn0 kc0 1 (ExpAt.below hW _ _ hX0) (by omega)
 have hp1 := fun (W : World) (hW : Below w.heap.size w W) => hE1 W ko1 kt1 ka1 kn1 kc1 (ExpAt.below hW _ _ hX1) (by omega)
 have hp2 := fun (W : World) (hW : Below w.heap.size w W) => hE2 W ko2 kt2 ka2 kn2 kc2 (ExpAt.below hW _ _ hX2) (by omega)
 have HS0 := Lib.hid (ptS_list (brk 1 (lvN e0.op, pcX e0))); have hs0 : (ptS (brk 1 (lvN e0.op, pcX e0))).size <= 500000 := Nat.le_trans (ptS_size _) hw0; have hn0 : brkN 1 (lvN e0.op, brX e0) <= 500000 := Nat.le_trans (brkN_le (brX_le e0)) hw0; have HS1 := Lib.hid (ptS_list (pcX e1)); have hs1 : (ptS (pcX e1)).size <= 500000 := Nat.le_trans (ptS_size _) hw1; have hn1 : brX e1 <= 500000 := Nat.le_trans (brX_le e1) hw1; have HS2 := Lib.hid (ptS_list (pcX e2)); have hs2 : (ptS (pcX e2)).size <= 500000 := Nat.le_trans (ptS_size _) hw2; have hn2 : brX e2 <= 500000 := Nat.le_trans (brX_le e2) hw2; unfold OfP at hp0 hp1 hp2; generalize ptS (brk 1 (lvN e0.op, pcX e0)) = S0 at *; generalize brkN 1 (lvN e0.op, brX e0) = x0 at *; generalize ptS (pcX e1) = S1 at *; generalize brX e1 = x1 at *; generalize ptS (pcX e2) = S2 at *; generalize brX e2 = x2 at *; have hbA := ofW_below w sQ t (.slice (some ⟨b0, off0, none⟩) 3 c); have heA := ofW_e w sQ t (.slice (some ⟨b0, off0, none⟩) 3 c); have hrA := ofW_r w sQ t (.slice (some ⟨b0, off0, none⟩) 3 c); obtain ⟨r00, r01, r02⟩ := hq0 _ hbA; obtain ⟨r10, r11, r12⟩ := hq1 _ hbA; obtain ⟨r20, r21, r22⟩ := hq2 _ hbA; have hszA : (ofW w sQ t (.slice (some ⟨b0, off0, none⟩) 3 c)).heap.size = w.heap.size + 2 := by simp
 have HQ0 := Lib.hid hq0; have HQ1 := Lib.hid hq1; have HQ2 := Lib.hid hq2; have g0 := heA.cell 0 _ rfl; have g1 := heA.cell 1 _ rfl; have g2 := heA.cell 2 _ rfl; unfold ofW at hbA heA hrA r00 r01 r02 r10 r11 r12 r20 r21 r22 hszA g0 g1 g2; clear hE0 hX0 hw0 hq0 hE1 hX1 hw1 hq1 hE2 hX2 hw2 hq2 hX hw; go_enter Tryz.func16, Tryz.ntmps16; go_wp2_with fail; generalize (w.alloc (.cells #[.string sQ, .string t, .slice (some ⟨b0, off0, none⟩) 3 c] 24)).alloc (.cells #[.string ⟨#[]⟩, .int .i64 0] 46) = wA at *; have hlA := heA.lt; have HA := Lib.hid (And.intro hbA (And.intro heA hrA)); have hlt0 : b0 < wA.heap.size := by omega
 clear hbA heA hrA
 have HSof := Lib.hid (fun (w' : World) (hw' : Below wA.heap.size wA w') => (show w'.cell? ⟨w.heap.size, 2, none⟩ = some (.slice (some ⟨b0, off0, none⟩) 3 c) /\ w'.cell? ⟨b0, off0, none⟩ = some (.string ko0) /\ w'.cell? ⟨b0, off0 + 1, none⟩ = some (.string kt0) /\ w'.cell? ⟨b0, off0 + 2, none⟩ = some (.slice ka0 kn0 kc0) /\ w'.cell? ⟨b0, off0 + 3, none⟩ = some (.string ko1) /\ w'.cell? ⟨b0, off0 + 3 + 1, none⟩ = some (.string kt1) /\ w'.cell? ⟨b0, off0 + 3 + 2, none⟩ = some (.slice ka1 kn1 kc1) /\ w'.cell? ⟨b0, off0 + 6, none⟩ = some (.string ko2) /\ w'.cell? ⟨b0, off0 + 6 + 1, none⟩ = some (.string kt2) /\ w'.cell? ⟨b0, off0 + 6 + 2, none⟩ = some (.slice ka2 kn2 kc2) from by
  have h1 := (HA.out.2.1.below hw' hlA).cell 2 _ rfl; obtain ⟨a00, a01, a02⟩ := HQ0.out _ (HA.out.1.trans (hw'.mono HA.out.1.size)); obtain ⟨a10, a11, a12⟩ := HQ1.out _ (HA.out.1.trans (hw'.mono HA.out.1.size)); obtain ⟨a20, a21, a22⟩ := HQ2.out _ (HA.out.1.trans (hw'.mono HA.out.1.size))
  exact ⟨h1, a00, a01, a02, a10, a11, a12, a20, a21, a22⟩))
 have hpA0 := fun (W : World) (hW : Below wA.heap.size wA W) => hp0 W (HA.out.1.trans (hW.mono HA.out.1.size)); have hpA1 := fun (W : World) (hW : Below wA.heap.size wA W) => hp1 W (HA.out.1.trans (hW.mono HA.out.1.size)); have hpA2 := fun (W : World) (hW : Below wA.heap.size wA W) => hp2 W (HA.out.1.trans (hW.mono HA.out.1.size)); have hB0 := Below.refl wA.heap.size wA; clear hp0 hp1 hp2; go_cut [10, 11, 12] (fun y0 y1 y2 wc => ∃ p0 p1 p2 : Nat, y0 = .pointer (some ⟨p0, 0, none⟩) /\ y1 = .pointer (some ⟨p1, 0, none⟩) /\ y2 = .pointer (some ⟨p2, 0, none⟩) /\ Cells wc p0 (ppV S0 x0) 46 /\ Cells wc p1 (ppV S1 x1) 46 /\ Cells wc p2 (ppV S2 x2) 46 /\ Below wA.heap.size wA wc)
 case first =>
  refine wp_region_noPanic ?_; refine wp_region_held_drew (S := (fun w' => w'.cell? ⟨w.heap.size, 2, none⟩ = some (.slice (some ⟨b0, off0, none⟩) 3 c) /\ w'.cell? ⟨b0, off0, none⟩ = some (.string ko0) /\ w'.cell? ⟨b0, off0 + 1, none⟩ = some (.string kt0) /\ w'.cell? ⟨b0, off0 + 2, none⟩ = some (.slice ka0 kn0 kc0) /\ w'.cell? ⟨b0, off0 + 3, none⟩ = some (.string ko1) /\ w'.cell? ⟨b0, off0 + 3 + 1, none⟩ = some (.string kt1) /\ w'.cell? ⟨b0, off0 + 3 + 2, none⟩ = some (.slice ka1 kn1 kc1) /\ w'.cell? ⟨b0, off0 + 6, none⟩ = some (.string ko2) /\ w'.cell? ⟨b0, off0 + 6 + 1, none⟩ = some (.string kt2) /\ w'.cell? ⟨b0, off0 + 6 + 2, none⟩ = some (.slice ka2 kn2 kc2))) (by kernel_rfl) (HSof.out _ hB0.drew) (fun hHeld => ?_)
  refine wpAnyH_take (i := 0) (v := ?_) rfl (by kernel_rfl) (by kernel_rfl) (by kernel_rfl) (fun _ _ _ h => h) (Or.inl ⟨by rfl, ?_⟩) hHeld ?_
  rotate_left
  ·intro w hSw
   (try dsimp only at hSw)
   go_simp
   (try with_reducible rfl)
  simp only [Act.put, List.setIfInBounds_toArray, List.set_cons_zero, List.set_cons_succ]; refine wpAnyH_take (i := 1) (v := ?_) rfl (by kernel_rfl) (by kernel_rfl) (by kernel_rfl) (fun _ _ _ h => h) (Or.inl ⟨by rfl, ?_⟩) hHeld ?_
  rotate_left
  ·intro w hSw
   (try dsimp only at hSw)
   go_simp
   (try with_reducible rfl)
  simp only [Act.put, List.setIfInBounds_toArray, List.set_cons_zero, List.set_cons_succ]; refine wpAnyH_take (i := 2) (v := ?_) rfl (by kernel_rfl) (by kernel_rfl) (by kernel_rfl) (fun _ _ _ h => h) (Or.inl ⟨by rfl, ?_⟩) hHeld ?_
  rotate_left
  ·intro w hSw
   (try dsimp only at hSw)
   go_simp
   (try with_reducible rfl)
  simp only [Act.put, List.setIfInBounds_toArray, List.set_cons_zero, List.set_cons_succ]; refine wpAnyH_take (i := 3) (v := ?_) rfl (by kernel_rfl) (by kernel_rfl) (by kernel_rfl) (fun _ _ _ h => h) (Or.inl ⟨by rfl, ?_⟩) hHeld ?_
  rotate_left
  ·intro w hSw
   (try dsimp only at hSw)
   go_simp
   (try with_reducible rfl)
  simp only [Act.put, List.setIfInBounds_toArray, List.set_cons_zero, List.set_cons_succ]; refine wpAnyH_take (i := 5) (v := ?_) rfl (by kernel_rfl) (by kernel_rfl) (by kernel_rfl) (fun _ _ _ h => h) (Or.inl ⟨by rfl, ?_⟩) hHeld ?_
  rotate_left
  ·intro w hSw
   (try dsimp only at hSw)
   go_simp
   (try with_reducible rfl)
  simp only [Act.put, List.setIfInBounds_toArray, List.set_cons_zero, List.set_cons_succ]; refine wpAnyH_take (i := 6) (v := ?_) rfl (by kernel_rfl) (by kernel_rfl) (by kernel_rfl) (fun _ _ _ h => h) (Or.inl ⟨by rfl, ?_⟩) hHeld ?_
  rotate_left
  ·intro w hSw
   (try dsimp only at hSw)
   go_simp
   (try with_reducible rfl)
  simp only [Act.put, List.setIfInBounds_toArray, List.set_cons_zero, List.set_cons_succ]; refine wpAnyH_take (i := 7) (v := ?_) rfl (by kernel_rfl) (by kernel_rfl) (by kernel_rfl) (fun _ _ _ h => h) (Or.inl ⟨by rfl, ?_⟩) hHeld ?_
  rotate_left
  ·intro w hSw
   (try dsimp only at hSw)
   go_simp
   (try with_reducible rfl)
  simp only [Act.put, List.setIfInBounds_toArray, List.set_cons_zero, List.set_cons_succ]; refine wpAnyH_take (i := 8) (v := ?_) rfl (by kernel_rfl) (by kernel_rfl) (by kernel_rfl) (fun _ _ _ h => h) (Or.inl ⟨by rfl, ?_⟩) hHeld ?_
  rotate_left
  ·intro w hSw
   (try dsimp only at hSw)
   go_simp
   (try with_reducible rfl)
  simp only [Act.put, List.setIfInBounds_toArray, List.set_cons_zero, List.set_cons_succ]; refine wpAnyH_take (i := 10) (v := ?_) rfl (by kernel_rfl) (by kernel_rfl) (by kernel_rfl) (fun _ _ _ h => h) (Or.inl ⟨by rfl, ?_⟩) hHeld ?_
  rotate_left
  ·intro w hSw
   (try dsimp only at hSw)
   go_simp
   (try with_reducible rfl)
  simp only [Act.put, List.setIfInBounds_toArray, List.set_cons_zero, List.set_cons_succ]; refine wpAnyH_take (i := 11) (v := ?_) rfl (by kernel_rfl) (by kernel_rfl) (by kernel_rfl) (fun _ _ _ h => h) (Or.inl ⟨by rfl, ?_⟩) hHeld ?_
  rotate_left
  ·intro w hSw
   (try dsimp only at hSw)
   go_simp
   (try with_reducible rfl)
  simp only [Act.put, List.setIfInBounds_toArray, List.set_cons_zero, List.set_cons_succ]; refine wpAnyH_take (i := 12) (v := ?_) rfl (by kernel_rfl) (by kernel_rfl) (by kernel_rfl) (fun _ _ _ h => h) (Or.inl ⟨by rfl, ?_⟩) hHeld ?_
  rotate_left
  ·intro w hSw
   (try dsimp only at hSw)
   go_simp
   (try with_reducible rfl)
  simp only [Act.put, List.setIfInBounds_toArray, List.set_cons_zero, List.set_cons_succ]; refine wpAnyH_take (i := 13) (v := ?_) rfl (by kernel_rfl) (by kernel_rfl) (by kernel_rfl) (fun _ _ _ h => h) (Or.inl ⟨by rfl, ?_⟩) hHeld ?_
  rotate_left
  ·intro w hSw
   (try dsimp only at hSw)
   go_simp
   (try with_reducible rfl)
  simp only [Act.put, List.setIfInBounds_toArray, List.set_cons_zero, List.set_cons_succ]
  refine wpAnyH_flo wA [130, 135, 140, 10, 11, 12] [4, 9, 14, 15, 16, 17] 3 (fun k => decide (3 <= k)) (fun k => if k = 0 then .agg (ppV S0 x0) else if k = 1 then .agg (ppV S1 x1) else .agg (ppV S2 x2)) (fun _ => #[.string ⟨#[]⟩, .int .i64 0]) (fun _ => 46) (fun k => undef)
   hB0.drew (by kernel_rfl) HSof.out [(0, 1), (1, 2)] (by decide) (by kernel_rfl) (by kernel_rfl) (by kernel_rfl) rfl ?_ ?_ ?_
  ·intro δ k hk
   rcases k with _ | _ | _ | _ | _ | _ | k
   ·kernel_rfl
   ·kernel_rfl
   ·kernel_rfl
   ·kernel_rfl
   ·kernel_rfl
   ·kernel_rfl
   ·simp at hk; omega
  ·intro k hk σ W hW
   rcases k with _ | _ | _ | _ | _ | _ | k
   ·refine wpOp_step rfl (fun K' hK => ?_)
    have HK := Lib.hid hK; clear hK; simp only [floA, Act.put, List.setIfInBounds_toArray, List.set_cons_zero, List.set_cons_succ]; go_simp
    go_at_call 32
    refine (hpA0 W hW).mono ?_; rintro _ W' ⟨rfl, hB'⟩; go_simp
    exact HK.out _ _ ⟨.agg (ppV S0 x0), by kernel_rfl, hB', flo_call rfl rfl⟩
   ·refine wpOp_step rfl (fun K' hK => ?_)
    have HK := Lib.hid hK; clear hK; simp only [floA, Act.put, List.setIfInBounds_toArray, List.set_cons_zero, List.set_cons_succ]; go_simp
    go_at_call 16
    refine (hpA1 W hW).mono ?_; rintro _ W' ⟨rfl, hB'⟩; go_simp
    exact HK.out _ _ ⟨.agg (ppV S1 x1), by kernel_rfl, hB', flo_call rfl rfl⟩
   ·refine wpOp_step rfl (fun K' hK => ?_)
    have HK := Lib.hid hK; clear hK; simp only [floA, Act.put, List.setIfInBounds_toArray, List.set_cons_zero, List.set_cons_succ]; go_simp
    go_at_call 16
    refine (hpA2 W hW).mono ?_; rintro _ W' ⟨rfl, hB'⟩; go_simp
    exact HK.out _ _ ⟨.agg (ppV S2 x2), by kernel_rfl, hB', flo_call rfl rfl⟩
   ·refine wpOp_step rfl (fun K' hK => ?_)
    have HK := Lib.hid hK; clear hK; simp only [floA, Act.put, List.setIfInBounds_toArray, List.set_cons_zero, List.set_cons_succ]; go_simp
    exact HK.out _ _ ⟨.pointer (some ⟨W.heap.size, 0, none⟩), by kernel_rfl, (Below.refl _ W).alloc (Nat.le_refl _) _, flo_alloc rfl (Cells.new W _ _)⟩
   ·refine wpOp_step rfl (fun K' hK => ?_)
    have HK := Lib.hid hK; clear hK; simp only [floA, Act.put, List.setIfInBounds_toArray, List.set_cons_zero, List.set_cons_succ]; go_simp
    exact HK.out _ _ ⟨.pointer (some ⟨W.heap.size, 0, none⟩), by kernel_rfl, (Below.refl _ W).alloc (Nat.le_refl _) _, flo_alloc rfl (Cells.new W _ _)⟩
   ·refine wpOp_step rfl (fun K' hK => ?_)
    have HK := Lib.hid hK; clear hK; simp only [floA, Act.put, List.setIfInBounds_toArray, List.set_cons_zero, List.set_cons_succ]; go_simp
    exact HK.out _ _ ⟨.pointer (some ⟨W.heap.size, 0, none⟩), by kernel_rfl, (Below.refl _ W).alloc (Nat.le_refl _) _, flo_alloc rfl (Cells.new W _ _)⟩
   ·simp at hk; omega
  ·intro q W hB hI hne
   have hc0 := (hI 3 (by decide) rfl).2
   have hc1 := (hI 4 (by decide) rfl).2
   have hc2 := (hI 5 (by decide) rfl).2
   have hne01 : ¬ q 3 = q 4 := hne 3 4 (by decide) (by decide) (by decide) rfl rfl
   have hne02 : ¬ q 3 = q 5 := hne 3 5 (by decide) (by decide) (by decide) rfl rfl
   have hne10 : ¬ q 4 = q 3 := hne 4 3 (by decide) (by decide) (by decide) rfl rfl
   have hne12 : ¬ q 4 = q 5 := hne 4 5 (by decide) (by decide) (by decide) rfl rfl
   have hne20 : ¬ q 5 = q 3 := hne 5 3 (by decide) (by decide) (by decide) rfl rfl
   have hne21 : ¬ q 5 = q 4 := hne 5 4 (by decide) (by decide) (by decide) rfl rfl
   have hg0 := (hI 3 (by decide) rfl).1
   have hg1 := (hI 4 (by decide) rfl).1
   have hg2 := (hI 5 (by decide) rfl).1
   have hsz := hB.size; change Cells W (q 3) #[.string ⟨#[]⟩, .int .i64 0] 46 at hc0; change Cells W (q 4) #[.string ⟨#[]⟩, .int .i64 0] 46 at hc1; change Cells W (q 5) #[.string ⟨#[]⟩, .int .i64 0] 46 at hc2; simp only [floA, floV, Nat.reduceLeDiff, Nat.reduceEqDiff, Nat.reduceAdd, decide_true, decide_false, if_true, if_false, reduceIte, reduceCtorEq, Bool.false_eq_true, Nat.le_refl, Nat.zero_add, Act.put, List.setIfInBounds_toArray, List.set_cons_zero, List.set_cons_succ]; have HC0 := Lib.hid hc0; have hl0 := hc0.lt; have HC1 := Lib.hid hc1; have hl1 := hc1.lt; have HC2 := Lib.hid hc2; have hl2 := hc2.lt; have hc0c0 := hc0.cell 0 _ rfl; have hc0f0 := hc0.frozen 0; have hc0c1 := hc0.cell 1 _ rfl; have hc0f1 := hc0.frozen 1; have hc1c0 := hc1.cell 0 _ rfl; have hc1f0 := hc1.frozen 0; have hc1c1 := hc1.cell 1 _ rfl; have hc1f1 := hc1.frozen 1; have hc2c0 := hc2.cell 0 _ rfl; have hc2f0 := hc2.frozen 0; have hc2c1 := hc2.cell 1 _ rfl; have hc2f1 := hc2.frozen 1; clear hc0 hc1 hc2 hI hne; refine wpAnyH_ready (rs := [18]) (by kernel_rfl) (by simp) ?_
   refine AllReadyH.cons rfl (fun K hK => ?_) AllReadyH.nil; go_simp
   refine hK.out _ _ ?_ (fun hHeld => ?_)
   ·exact HSof.out _ (by (repeat' first | with_reducible refine Below.setCell ?_ ?_ _ | with_reducible refine Below.alloc ?_ ?_ _ | with_reducible refine Below.drew ?_ | with_reducible refine below_drewN ?_ _ | with_reducible assumption | with_reducible exact Below.refl _ _ | (simp only [World.size_alloc, World.size_setCell, World.size_drew]; first | done | omega) | omega))
   clear hK K; try simp only [Act.put, List.setIfInBounds_toArray, List.set_cons_zero, List.set_cons_succ]
   refine wpAnyH_ready (rs := [19]) (by kernel_rfl) (by simp) ?_
   refine AllReadyH.cons rfl (fun K hK => ?_) AllReadyH.nil; go_simp
   refine hK.out _ _ ?_ (fun hHeld => ?_)
   ·exact HSof.out _ (by (repeat' first | with_reducible refine Below.setCell ?_ ?_ _ | with_reducible refine Below.alloc ?_ ?_ _ | with_reducible refine Below.drew ?_ | with_reducible refine below_drewN ?_ _ | with_reducible assumption | with_reducible exact Below.refl _ _ | (simp only [World.size_alloc, World.size_setCell, World.size_drew]; first | done | omega) | omega))
   clear hK K; try simp only [Act.put, List.setIfInBounds_toArray, List.set_cons_zero, List.set_cons_succ]
   refine wpAnyH_ready (rs := [20]) (by kernel_rfl) (by simp) ?_
   refine AllReadyH.cons rfl (fun K hK => ?_) AllReadyH.nil; go_simp
   refine hK.out _ _ ?_ (fun hHeld => ?_)
   ·exact HSof.out _ (by (repeat' first | with_reducible refine Below.setCell ?_ ?_ _ | with_reducible refine Below.alloc ?_ ?_ _ | with_reducible refine Below.drew ?_ | with_reducible refine below_drewN ?_ _ | with_reducible assumption | with_reducible exact Below.refl _ _ | (simp only [World.size_alloc, World.size_setCell, World.size_drew]; first | done | omega) | omega))
   clear hK K; try simp only [Act.put, List.setIfInBounds_toArray, List.set_cons_zero, List.set_cons_succ]
   refine wpAnyH_done (by kernel_rfl) ?_ _
   refine NoPanic.normal ?_; go_wp2_with fail; go_meet
   case rel => exact ⟨q 3, q 4, q 5, rfl, rfl, rfl, ((((((HC0.out.setI 0 (.string S0)).setI 1 (.int .i64 (x0 : Nat))).setOther _ _ hne10).setOther _ _ hne10).setOther _ _ hne20).setOther _ _ hne20), ((((((HC1.out.setOther _ _ hne01).setOther _ _ hne01).setI 0 (.string S1)).setI 1 (.int .i64 (x1 : Nat))).setOther _ _ hne21).setOther _ _ hne21), ((((((HC2.out.setOther _ _ hne02).setOther _ _ hne02).setOther _ _ hne12).setOther _ _ hne12).setI 0 (.string S2)).setI 1 (.int .i64 (x2 : Nat))), by (repeat' first | with_reducible refine Below.setCell ?_ ?_ _ | with_reducible refine Below.alloc ?_ ?_ _ | with_reducible refine Below.drew ?_ | with_reducible refine below_drewN ?_ _ | with_reducible assumption | with_reducible exact Below.refl _ _ | (simp only [World.size_alloc, World.size_setCell, World.size_drew]; first | done | omega) | omega)⟩
 case rest =>
  obtain ⟨p0, p1, p2, rfl, rfl, rfl, hc0, hc1, hc2, hbc⟩ := hcut; have hcr := HA.out.2.2.below hbc HA.out.2.2.lt; have hce := HA.out.2.1.below hbc HA.out.2.1.lt; have HBC := Lib.hid (HA.out.1.trans (hbc.mono HA.out.1.size)); have HCR := Lib.hid hcr; have hl0 := hc0.lt; have hl1 := hc1.lt; have hl2 := hc2.lt; have hlr := hcr.lt; have hc0c0 := hc0.cell 0 _ rfl; have hc0f0 := hc0.frozen 0; have hc0c1 := hc0.cell 1 _ rfl; have hc0f1 := hc0.frozen 1; have hc1c0 := hc1.cell 0 _ rfl; have hc1f0 := hc1.frozen 0; have hc1c1 := hc1.cell 1 _ rfl; have hc1f1 := hc1.frozen 1; have hc2c0 := hc2.cell 0 _ rfl; have hc2f0 := hc2.frozen 0; have hc2c1 := hc2.cell 1 _ rfl; have hc2f1 := hc2.frozen 1; have hcrc0 := hcr.cell 0 _ rfl; have hcrf0 := hcr.frozen 0; have hcrc1 := hcr.cell 1 _ rfl; have hcrf1 := hcr.frozen 1; have hcec0 := hce.cell 0 _ rfl; have hcef0 := hce.frozen 0; have hcec1 := hce.cell 1 _ rfl; have hcef1 := hce.frozen 1; have hcec2 := hce.cell 2 _ rfl; have hcef2 := hce.frozen 2; clear hc0 hc1 hc2 hcr hce hbc hpA0 hpA1 hpA2 HSof r00 r01 r02 r10 r11 r12 r20 r21 r22 g0 g1 g2; go_wp2_with fail; have hq := (HCR.out.setI 0 (.string (S0 ++ ⟨#[32, 63, 32]⟩ ++ S1 ++ ⟨#[32, 58, 32]⟩ ++ S2))).setI 1 (.int .i64 ((x0 : Int) + (x1 : Int) + (x2 : Int))); have zz0 := hq.cell 0 _ rfl; have zz1 := hq.cell 1 _ rfl; refine bodyPost_ret (v := .agg #[.string (S0 ++ ⟨#[32, 63, 32]⟩ ++ S1 ++ ⟨#[32, 58, 32]⟩ ++ S2), .int .i64 ((x0 : Int) + (x1 : Int) + (x2 : Int))]) (by simp [results, Tryz.results16, go_sem, zz0, zz1]) rfl ?_
  refine ofP_same ?_ (by omega) ((HBC.out.setCell (by show w.heap.size <= w.heap.size + 1; omega) _).setCell (by show w.heap.size <= w.heap.size + 1; omega) _)
  simp only [app_list, HS0.out, HS1.out, HS2.out, catP, catP_app, List.append_assoc, List.append_nil]; rfl
end
theorem of_step (o t : ByteArray) (ks : List Exp) (hs : Shp o t ks) (ht : t.size <= 1048576) (h : ∀ k ∈ ks, OfC k) : OfC (.mk o t ks) := by
 intro w o' t' a k c hX hw
 cases hs with
 | name => exact of_name w o' t' a k c _ hX
 | num => exact of_num w o' t' a k c _ hX
 | text _ hv => exact of_text w o' t' a k c _ ht hX
 | call => exact of_call w o' t' a k c _ _ h hX hw ht
 | list => exact of_list w o' t' a k c _ _ h hX hw ht
 | get _ x => exact of_get w o' t' a k c _ x (h x (by simp)) hX hw ht
 | at_ x y => exact of_at w o' t' a k c _ x y (h x (by simp)) (h y (by simp)) hX hw
 | bang x => exact of_bang w o' t' a k c _ x (h x (by simp)) hX hw ht
 | neg x => exact of_neg w o' t' a k c _ x (h x (by simp)) hX hw ht
 | choice x y z => exact of_quest w o' t' a k c _ x y z (h x (by simp)) (h y (by simp)) (h z (by simp)) hX hw
 | two _ lv x y hl h1 h6 hn hm => exact of_two w o' t' a k c _ o lv x y hn hl h1 h6 hm (h x (by simp)) (h y (by simp)) hX hw
theorem ofC_upto : ∀ (n : Nat) (e : Exp), e.bulk <= n -> rightX e = true -> ShortX e -> OfC e
 | 0, e, hb, _, _ => by have := bulkX_pos e; omega
 | n + 1, .mk o t ks, hb, hr, hs => by
  obtain ⟨h1, h2⟩ := Shp.ok hr; simp only [ShortX] at hs; refine of_step o t ks h1 (by omega) (fun k hk => ?_)
  obtain ⟨j, hj, rfl⟩ := List.mem_iff_getElem.1 hk; have hbk := bulkX_kid hj; simp only [Exp.bulk] at hb; exact ofC_upto n _ (by omega) (h2 _ hk) (ShortXs.kid hj hs.2.2)
theorem Of_any (x : Exp) (hr : rightX x = true) (hs : wtX x <= 300 /\ ShortX x) (w : World) (cs : List Value) (hv : ExpAt w x cs) :
  Calls Tryz.prog 16 #[vX cs] w fun e w' => e = .returned (.agg (ppV (ptS (pcX x)) (brX x))) /\ Below w.heap.size w w' := by
 obtain ⟨o, t, a, k, c, rfl⟩ := hv.shape; exact ofC_upto _ x (Nat.le_refl _) hr hs.2 w o t a k c hv (by have := wt_small hr hs; omega)
theorem part_name (w : World) (g : Nat) : Calls Tryz.prog 40 #[.pointer (some ⟨g, 0, none⟩), .string oName] w fun e w' => e = .returned (.func (.func 66) #[] #[.pointer (some ⟨w.heap.size, 0, none⟩)]) /\ w' = w.alloc (.cells #[.pointer (some ⟨g, 0, none⟩)] 54) := by
 go_enter Tryz.func40, Tryz.ntmps40; go_wp2; go_ret; exact ⟨rfl, rfl⟩
theorem part_num (w : World) (g : Nat) : Calls Tryz.prog 40 #[.pointer (some ⟨g, 0, none⟩), .string oNum] w fun e w' => e = .returned (.func (.func 68) #[] #[.pointer (some ⟨w.heap.size, 0, none⟩)]) /\ w' = w.alloc (.cells #[.pointer (some ⟨g, 0, none⟩)] 54) := by
 go_enter Tryz.func40, Tryz.ntmps40; go_wp2; go_ret; exact ⟨rfl, rfl⟩
theorem part_list (w : World) (g : Nat) : Calls Tryz.prog 40 #[.pointer (some ⟨g, 0, none⟩), .string oList] w fun e w' => e = .returned (.func (.func 71) #[] #[.pointer (some ⟨w.heap.size, 0, none⟩)]) /\ w' = w.alloc (.cells #[.pointer (some ⟨g, 0, none⟩)] 54) := by
 go_enter Tryz.func40, Tryz.ntmps40; go_wp2; go_ret; exact ⟨rfl, rfl⟩
theorem part_text (w : World) (g : Nat) : Calls Tryz.prog 40 #[.pointer (some ⟨g, 0, none⟩), .string oText] w fun e w' => e = .returned (.func (.func 69) #[.pointer (some ⟨g, 0, none⟩)] #[]) /\ w' = w.alloc (.cells #[.pointer (some ⟨g, 0, none⟩)] 54) := by
 go_enter Tryz.func40, Tryz.ntmps40; go_wp2; go_ret; exact ⟨rfl, rfl⟩
theorem part_call (w : World) (g : Nat) : Calls Tryz.prog 40 #[.pointer (some ⟨g, 0, none⟩), .string oCall] w fun e w' => e = .returned (.func (.func 70) #[.pointer (some ⟨g, 0, none⟩)] #[]) /\ w' = w.alloc (.cells #[.pointer (some ⟨g, 0, none⟩)] 54) := by
 go_enter Tryz.func40, Tryz.ntmps40; go_wp2; go_ret; exact ⟨rfl, rfl⟩
theorem part_get (w : World) (g : Nat) : Calls Tryz.prog 40 #[.pointer (some ⟨g, 0, none⟩), .string oGet] w fun e w' => e = .returned (.func (.func 73) #[.pointer (some ⟨g, 0, none⟩)] #[]) /\ w' = w.alloc (.cells #[.pointer (some ⟨g, 0, none⟩)] 54) := by
 go_enter Tryz.func40, Tryz.ntmps40; go_wp2; go_ret; exact ⟨rfl, rfl⟩
theorem part_at (w : World) (g : Nat) : Calls Tryz.prog 40 #[.pointer (some ⟨g, 0, none⟩), .string oAt] w fun e w' => e = .returned (.func (.func 74) #[.pointer (some ⟨g, 0, none⟩)] #[]) /\ w' = w.alloc (.cells #[.pointer (some ⟨g, 0, none⟩)] 54) := by
 go_enter Tryz.func40, Tryz.ntmps40; go_wp2; go_ret; exact ⟨rfl, rfl⟩
theorem part_bang (w : World) (g : Nat) : Calls Tryz.prog 40 #[.pointer (some ⟨g, 0, none⟩), .string sBang] w fun e w' => e = .returned (.func (.func 75) #[.pointer (some ⟨g, 0, none⟩)] #[]) /\ w' = w.alloc (.cells #[.pointer (some ⟨g, 0, none⟩)] 54) := by
 go_enter Tryz.func40, Tryz.ntmps40; go_wp2; go_ret; exact ⟨rfl, rfl⟩
theorem part_neg (w : World) (g : Nat) : Calls Tryz.prog 40 #[.pointer (some ⟨g, 0, none⟩), .string oNeg] w fun e w' => e = .returned (.func (.func 75) #[.pointer (some ⟨g, 0, none⟩)] #[]) /\ w' = w.alloc (.cells #[.pointer (some ⟨g, 0, none⟩)] 54) := by
 go_enter Tryz.func40, Tryz.ntmps40; go_wp2; go_ret; exact ⟨rfl, rfl⟩
theorem part_quest (w : World) (g : Nat) : Calls Tryz.prog 40 #[.pointer (some ⟨g, 0, none⟩), .string sQ] w fun e w' => e = .returned (.func (.func 76) #[.pointer (some ⟨g, 0, none⟩)] #[]) /\ w' = w.alloc (.cells #[.pointer (some ⟨g, 0, none⟩)] 54) := by
 go_enter Tryz.func40, Tryz.ntmps40; go_wp2; go_ret; exact ⟨rfl, rfl⟩
theorem part_o0 (w : World) (g : Nat) : Calls Tryz.prog 40 #[.pointer (some ⟨g, 0, none⟩), .string ⟨#[124, 124]⟩] w fun e w' => e = .returned (.func (.func 77) #[.pointer (some ⟨g, 0, none⟩)] #[]) /\ w' = w.alloc (.cells #[.pointer (some ⟨g, 0, none⟩)] 54) := by
 go_enter Tryz.func40, Tryz.ntmps40; go_wp2; go_ret; exact ⟨rfl, rfl⟩
theorem part_o1 (w : World) (g : Nat) : Calls Tryz.prog 40 #[.pointer (some ⟨g, 0, none⟩), .string ⟨#[38, 38]⟩] w fun e w' => e = .returned (.func (.func 77) #[.pointer (some ⟨g, 0, none⟩)] #[]) /\ w' = w.alloc (.cells #[.pointer (some ⟨g, 0, none⟩)] 54) := by
 go_enter Tryz.func40, Tryz.ntmps40; go_wp2; go_ret; exact ⟨rfl, rfl⟩
theorem part_o2 (w : World) (g : Nat) : Calls Tryz.prog 40 #[.pointer (some ⟨g, 0, none⟩), .string ⟨#[61, 61]⟩] w fun e w' => e = .returned (.func (.func 77) #[.pointer (some ⟨g, 0, none⟩)] #[]) /\ w' = w.alloc (.cells #[.pointer (some ⟨g, 0, none⟩)] 54) := by
 go_enter Tryz.func40, Tryz.ntmps40; go_wp2; go_ret; exact ⟨rfl, rfl⟩
theorem part_o3 (w : World) (g : Nat) : Calls Tryz.prog 40 #[.pointer (some ⟨g, 0, none⟩), .string ⟨#[33, 61]⟩] w fun e w' => e = .returned (.func (.func 77) #[.pointer (some ⟨g, 0, none⟩)] #[]) /\ w' = w.alloc (.cells #[.pointer (some ⟨g, 0, none⟩)] 54) := by
 go_enter Tryz.func40, Tryz.ntmps40; go_wp2; go_ret; exact ⟨rfl, rfl⟩
theorem part_o4 (w : World) (g : Nat) : Calls Tryz.prog 40 #[.pointer (some ⟨g, 0, none⟩), .string ⟨#[60]⟩] w fun e w' => e = .returned (.func (.func 77) #[.pointer (some ⟨g, 0, none⟩)] #[]) /\ w' = w.alloc (.cells #[.pointer (some ⟨g, 0, none⟩)] 54) := by
 go_enter Tryz.func40, Tryz.ntmps40; go_wp2; go_ret; exact ⟨rfl, rfl⟩
theorem part_o5 (w : World) (g : Nat) : Calls Tryz.prog 40 #[.pointer (some ⟨g, 0, none⟩), .string ⟨#[62]⟩] w fun e w' => e = .returned (.func (.func 77) #[.pointer (some ⟨g, 0, none⟩)] #[]) /\ w' = w.alloc (.cells #[.pointer (some ⟨g, 0, none⟩)] 54) := by
 go_enter Tryz.func40, Tryz.ntmps40; go_wp2; go_ret; exact ⟨rfl, rfl⟩
theorem part_o6 (w : World) (g : Nat) : Calls Tryz.prog 40 #[.pointer (some ⟨g, 0, none⟩), .string ⟨#[60, 61]⟩] w fun e w' => e = .returned (.func (.func 77) #[.pointer (some ⟨g, 0, none⟩)] #[]) /\ w' = w.alloc (.cells #[.pointer (some ⟨g, 0, none⟩)] 54) := by
 go_enter Tryz.func40, Tryz.ntmps40; go_wp2; go_ret; exact ⟨rfl, rfl⟩
theorem part_o7 (w : World) (g : Nat) : Calls Tryz.prog 40 #[.pointer (some ⟨g, 0, none⟩), .string ⟨#[62, 61]⟩] w fun e w' => e = .returned (.func (.func 77) #[.pointer (some ⟨g, 0, none⟩)] #[]) /\ w' = w.alloc (.cells #[.pointer (some ⟨g, 0, none⟩)] 54) := by
 go_enter Tryz.func40, Tryz.ntmps40; go_wp2; go_ret; exact ⟨rfl, rfl⟩
theorem part_o8 (w : World) (g : Nat) : Calls Tryz.prog 40 #[.pointer (some ⟨g, 0, none⟩), .string ⟨#[43]⟩] w fun e w' => e = .returned (.func (.func 77) #[.pointer (some ⟨g, 0, none⟩)] #[]) /\ w' = w.alloc (.cells #[.pointer (some ⟨g, 0, none⟩)] 54) := by
 go_enter Tryz.func40, Tryz.ntmps40; go_wp2; go_ret; exact ⟨rfl, rfl⟩
theorem part_o9 (w : World) (g : Nat) : Calls Tryz.prog 40 #[.pointer (some ⟨g, 0, none⟩), .string ⟨#[45]⟩] w fun e w' => e = .returned (.func (.func 77) #[.pointer (some ⟨g, 0, none⟩)] #[]) /\ w' = w.alloc (.cells #[.pointer (some ⟨g, 0, none⟩)] 54) := by
 go_enter Tryz.func40, Tryz.ntmps40; go_wp2; go_ret; exact ⟨rfl, rfl⟩
theorem part_o10 (w : World) (g : Nat) : Calls Tryz.prog 40 #[.pointer (some ⟨g, 0, none⟩), .string ⟨#[42]⟩] w fun e w' => e = .returned (.func (.func 77) #[.pointer (some ⟨g, 0, none⟩)] #[]) /\ w' = w.alloc (.cells #[.pointer (some ⟨g, 0, none⟩)] 54) := by
 go_enter Tryz.func40, Tryz.ntmps40; go_wp2; go_ret; exact ⟨rfl, rfl⟩
theorem part_o11 (w : World) (g : Nat) : Calls Tryz.prog 40 #[.pointer (some ⟨g, 0, none⟩), .string ⟨#[47]⟩] w fun e w' => e = .returned (.func (.func 77) #[.pointer (some ⟨g, 0, none⟩)] #[]) /\ w' = w.alloc (.cells #[.pointer (some ⟨g, 0, none⟩)] 54) := by
 go_enter Tryz.func40, Tryz.ntmps40; go_wp2; go_ret; exact ⟨rfl, rfl⟩
theorem part_o12 (w : World) (g : Nat) : Calls Tryz.prog 40 #[.pointer (some ⟨g, 0, none⟩), .string ⟨#[37]⟩] w fun e w' => e = .returned (.func (.func 77) #[.pointer (some ⟨g, 0, none⟩)] #[]) /\ w' = w.alloc (.cells #[.pointer (some ⟨g, 0, none⟩)] 54) := by
 go_enter Tryz.func40, Tryz.ntmps40; go_wp2; go_ret; exact ⟨rfl, rfl⟩
theorem part_two (op : ByteArray) (h : op ∈ ([[124, 124], [38, 38], [61, 61], [33, 61], [60], [62], [60, 61], [62, 61], [43], [45], [42], [47], [37]] : List Bs).map strL) (w : World) (g : Nat) : Calls Tryz.prog 40 #[.pointer (some ⟨g, 0, none⟩), .string op] w fun e w' => e = .returned (.func (.func 77) #[.pointer (some ⟨g, 0, none⟩)] #[]) /\ w' = w.alloc (.cells #[.pointer (some ⟨g, 0, none⟩)] 54) := by
 simp only [List.map_cons, List.map_nil, List.mem_cons, List.not_mem_nil, or_false] at h; rcases h with rfl | rfl | rfl | rfl | rfl | rfl | rfl | rfl | rfl | rfl | rfl | rfl | rfl
 ·exact part_o0 w g
 ·exact part_o1 w g
 ·exact part_o2 w g
 ·exact part_o3 w g
 ·exact part_o4 w g
 ·exact part_o5 w g
 ·exact part_o6 w g
 ·exact part_o7 w g
 ·exact part_o8 w g
 ·exact part_o9 w g
 ·exact part_o10 w g
 ·exact part_o11 w g
 ·exact part_o12 w g
section
variable (w0 w : World) (g n : Nat) (P : Pcs) (o t : ByteArray) (a : Option Addr) (k c : Nat)
theorem name_any (text : ByteArray) (bp : Nat) (hb : w.cell? ⟨bp, 0, none⟩ = some (.pointer (some ⟨g, 0, none⟩))) (hbl : bp < w.heap.size) (hC : Cx w0 w g P n) (hX : ExpAt w0 (.mk oName text []) (expV o t (.slice a k c))) (hw : wt (P ++ pcX (.mk oName text [])) <= 1000000) :
  Calls Tryz.prog 66 #[exV o t (.slice a k c), .pointer (some ⟨bp, 0, none⟩)] w (Prt w0.heap.size g P (pcX (.mk oName text [])) n (brX (.mk oName text [])) w) := by
 have hbr : brX (.mk oName text []) = 0 := rfl; rw [pc_name] at hw ⊢; rw [hbr]; obtain ⟨rfl, rfl, a', c', hsl, hkc, hcm⟩ := exp_top hX; cases hsl
 have hF := Fx.start hC #[.string oName, .string t, .slice a 0 c]; have hp := put_any _ w0.heap.size g n 1 P t hF.c.p hF.c.ge hw; have HF := Lib.hid hF; clear hF hC hX hw hbr; go_enter Tryz.func66, Tryz.ntmps66; go_wp2_with fail; refine hp.mono ?_; rintro _ w6 ⟨rfl, h6⟩; clear hp; have hF6 := HF.out.go ⟨rfl, h6⟩ (Nat.zero_le _); have HF6 := Lib.hid hF6; clear h6; clear hF6; go_wp2_with fail; refine bodyPost_end (v := .tuple #[]) (by simp [results, Tryz.results66, go_sem]) rfl ?_
 exact HF6.out.fin (by omega)
theorem num_any (text : ByteArray) (bp : Nat) (hb : w.cell? ⟨bp, 0, none⟩ = some (.pointer (some ⟨g, 0, none⟩))) (hbl : bp < w.heap.size) (hC : Cx w0 w g P n) (hX : ExpAt w0 (.mk oNum text []) (expV o t (.slice a k c))) (hw : wt (P ++ pcX (.mk oNum text [])) <= 1000000) :
  Calls Tryz.prog 68 #[exV o t (.slice a k c), .pointer (some ⟨bp, 0, none⟩)] w (Prt w0.heap.size g P (pcX (.mk oNum text [])) n (brX (.mk oNum text [])) w) := by
 have hbr : brX (.mk oNum text []) = 0 := rfl; rw [pc_num] at hw ⊢; rw [hbr]; obtain ⟨rfl, rfl, a', c', hsl, hkc, hcm⟩ := exp_top hX; cases hsl
 have hF := Fx.start hC #[.string oNum, .string t, .slice a 0 c]; have hp := put_any _ w0.heap.size g n 2 P t hF.c.p hF.c.ge hw; have HF := Lib.hid hF; clear hF hC hX hw hbr; go_enter Tryz.func68, Tryz.ntmps68; go_wp2_with fail; refine hp.mono ?_; rintro _ w6 ⟨rfl, h6⟩; clear hp; have hF6 := HF.out.go ⟨rfl, h6⟩ (Nat.zero_le _); have HF6 := Lib.hid hF6; clear h6; clear hF6; go_wp2_with fail; refine bodyPost_end (v := .tuple #[]) (by simp [results, Tryz.results68, go_sem]) rfl ?_
 exact HF6.out.fin (by omega)
theorem list_any (text : ByteArray) (kids : List Exp) (bp : Nat) (hb : w.cell? ⟨bp, 0, none⟩ = some (.pointer (some ⟨g, 0, none⟩))) (hbl : bp < w.heap.size) (hE : ∀ k ∈ kids, ExprC k) (hT : Tab w0) (hC : Cx w0 w g P n) (hX : ExpAt w0 (.mk oList text kids) (expV o t (.slice a k c))) (hw : wt (P ++ pcX (.mk oList text kids)) <= 1000000) :
  Calls Tryz.prog 71 #[exV o t (.slice a k c), .pointer (some ⟨bp, 0, none⟩)] w (Prt w0.heap.size g P (pcX (.mk oList text kids)) n (brX (.mk oList text kids)) w) := by
 have hbr : brX (.mk oList text kids) = sumB kids := rfl; rw [pc_list] at hw ⊢; rw [hbr]; change wt (P ++ pS sLb :: (comP kids ++ [pS sRb])) <= 1000000 at hw; show Calls _ _ _ _ (Prt w0.heap.size g P (pS sLb :: (comP kids ++ [pS sRb])) n (sumB kids) w); obtain ⟨rfl, rfl, a', c', hsl, hkc, hcm⟩ := exp_top hX; cases hsl
 have hF := Fx.start hC #[.string oList, .string t, .slice a kids.length c]; have hp := pMany_any w0 _ g n P a c oList t sLb sRb kids hE hT hF.c hX hcm hkc (by simpa using hw)
 have HF := Lib.hid hF; unfold maxLen at hcm; clear hF hC hX hw hbr hE hT; go_enter Tryz.func71, Tryz.ntmps71; go_wp2_with fail; refine hp.mono ?_; rintro _ w6 ⟨rfl, h6⟩; clear hp; go_wp2_with fail; refine bodyPost_end (v := .tuple #[]) (by simp [results, Tryz.results71, go_sem]) rfl ?_
 exact ⟨rfl, h6.1, HF.out.b.trans h6.2.1, HF.out.s.trans h6.2.2⟩
theorem call_any (text : ByteArray) (kids : List Exp) (hE : ∀ k ∈ kids, ExprC k) (hT : Tab w0) (hC : Cx w0 w g P n) (hX : ExpAt w0 (.mk oCall text kids) (expV o t (.slice a k c))) (hw : wt (P ++ pcX (.mk oCall text kids)) <= 1000000) :
  Calls Tryz.prog 70 #[.pointer (some ⟨g, 0, none⟩), exV o t (.slice a k c)] w (Prt w0.heap.size g P (pcX (.mk oCall text kids)) n (brX (.mk oCall text kids)) w) := by
 have hbr : brX (.mk oCall text kids) = sumB kids := rfl; rw [pc_call] at hw ⊢; rw [hbr]; change wt (P ++ some ⟨1, text, 0⟩ :: pS sLp :: (comP kids ++ [pS sRp])) <= 1000000 at hw; show Calls _ _ _ _ (Prt w0.heap.size g P (some ⟨1, text, 0⟩ :: pS sLp :: (comP kids ++ [pS sRp])) n (sumB kids) w); obtain ⟨rfl, rfl, a', c', hsl, hkc, hcm⟩ := exp_top hX; cases hsl
 have hF := Fx.start hC #[.string oCall, .string t, .slice a kids.length c]; have w1 : wt (P ++ [some ⟨1, t, 0⟩]) <= 1000000 := by simp only [wt_app, wt_some, wt_none, wt_nil] at hw ⊢; omega
 have hp := put_any _ w0.heap.size g n 1 P t hF.c.p hF.c.ge w1; have hM := fun W hW => pMany_any w0 W g (n + 0) (P ++ [some ⟨1, t, 0⟩]) a c oCall t sLp sRp kids hE hT hW hX hcm hkc (by simpa using hw)
 have HM := Lib.hid hM; have HF := Lib.hid hF; unfold maxLen at hcm; clear hF hC hX hw hbr hE hT hM w1; go_enter Tryz.func70, Tryz.ntmps70; go_wp2_with fail; refine hp.mono ?_; rintro _ w6 ⟨rfl, h6⟩; clear hp; have hF6 := HF.out.go ⟨rfl, h6⟩ (Nat.zero_le _); have HF6 := Lib.hid hF6; clear h6; have hp := HM.out w6 hF6.c; have hx := hF6.x; have hxl := hx.lt; have hxc0 := hx.cell 0 _ rfl; have hxf0 := hx.frozen 0; have hxc1 := hx.cell 1 _ rfl; have hxf1 := hx.frozen 1; have hxc2 := hx.cell 2 _ rfl; have hxf2 := hx.frozen 2; clear hx; clear hF6; go_wp2_with fail; refine hp.mono ?_; rintro _ w7 ⟨rfl, h7⟩; clear hp; go_wp2_with fail; refine bodyPost_end (v := .tuple #[]) (by simp [results, Tryz.results70, go_sem]) rfl ?_
 have h8 := h7.1; simp only [List.append_assoc, Nat.add_zero, List.cons_append, List.nil_append] at h8; exact ⟨rfl, h8, HF6.out.b.trans h7.2.1, HF6.out.s.trans h7.2.2⟩
end
theorem Cx.alloc {w0 W : World} {g n : Nat} {P : Pcs} (h : Cx w0 W g P n) (o : Obj) : Cx w0 (W.alloc o) g P n :=
 ⟨h.b.alloc (by have := h.b.size; omega) o, h.ge, h.p.alloc o, h.le⟩
abbrev partW (w : World) (g : Nat) (o t : ByteArray) (s : Value) : World := (w.alloc (.cells #[.string o, .string t, s] 24)).drew.alloc (.cells #[.pointer (some ⟨g, 0, none⟩)] 54)
theorem Cx.drew {w0 W : World} {g n : Nat} {P : Pcs} (h : Cx w0 W g P n) : Cx w0 W.drew g P n := ⟨h.b.drew, h.ge, h.p.drew, h.le⟩
theorem Cx.part {w0 w : World} {g n : Nat} {P : Pcs} (h : Cx w0 w g P n) (o t : ByteArray) (s : Value) : Cx w0 (partW w g o t s) g P n := (h.alloc _).drew.alloc _
theorem part_box (w : World) (g : Nat) (o t : ByteArray) (s : Value) : (partW w g o t s).cell? ⟨w.heap.size + 1, 0, none⟩ = some (.pointer (some ⟨g, 0, none⟩)) /\ w.heap.size + 1 < (partW w g o t s).heap.size := by
 have h := Cells.new (w.alloc (.cells #[.string o, .string t, s] 24)).drew #[.pointer (some ⟨g, 0, none⟩)] 54; have h1 := h.cell 0 _ rfl; have h2 := h.lt; simp only [World.size_alloc, World.size_drew] at h1 h2 ⊢; exact ⟨h1, by omega⟩
theorem part_end {w0 w : World} {g n m : Nat} {P Q : Pcs} {o t : ByteArray} {s : Value} (h : Cx w0 w g P n) {W' : World} (hp : Prt w0.heap.size g P Q n m (partW w g o t s) (.returned (.tuple #[])) W') :
  Prt w0.heap.size g P Q n m w (.returned (.tuple #[])) W' := by
 obtain ⟨h1, h2, h3, h4⟩ := hp; have hs : w0.heap.size <= w.heap.size := h.b.size; refine ⟨h1, h2, Below.trans (((Below.refl _ w).alloc hs _).drew.alloc (by rw [World.size_drew, World.size_alloc]; omega) _) h3, ((BesP.refl.alloc _).drew.alloc _).trans h4⟩
theorem expr_name (w0 w : World) (g n : Nat) (P : Pcs) (o t : ByteArray) (a : Option Addr) (k c : Nat) (e : Exp) (hC : Cx w0 w g P n)
  (hPt : ∀ W : World, Calls Tryz.prog 40 #[.pointer (some ⟨g, 0, none⟩), .string o] W fun e w' => e = .returned (.func (.func 66) #[] #[.pointer (some ⟨W.heap.size, 0, none⟩)]) /\ w' = W.alloc (.cells #[.pointer (some ⟨g, 0, none⟩)] 54))
  (hF : Calls Tryz.prog 66 (#[exV o t (.slice a k c), .pointer (some ⟨w.heap.size + 1, 0, none⟩)]) (partW w g o t (.slice a k c)) (Prt w0.heap.size g P (pcX e) n (brX e) (partW w g o t (.slice a k c)))) :
  Calls Tryz.prog 23 #[.pointer (some ⟨g, 0, none⟩), exV o t (.slice a k c)] w (Prt w0.heap.size g P (pcX e) n (brX e) w) := by
 have HE := Lib.hid (fun W' hp => part_end (o := o) (t := t) (s := .slice a k c) (P := P) (Q := pcX e) (n := n) (m := brX e) hC (W' := W') hp); unfold partW at hF; clear hC; go_enter Tryz.func23, Tryz.ntmps23; go_wp2_with fail
 go_region_law (first
  | (go_simp; go_at_call 40; refine (hPt _).mono ?_; rintro _ _ ⟨rfl, rfl⟩)
  | (go_simp; go_at_call 66; refine hF.mono ?_; rintro _ w5 ⟨rfl, h5⟩))
 all_goals
  go_wp2_with fail; refine bodyPost_end (v := .tuple #[]) (by simp [results, Tryz.results23, go_sem]) rfl ?_
  exact HE.out _ ⟨rfl, h5⟩
theorem expr_num (w0 w : World) (g n : Nat) (P : Pcs) (o t : ByteArray) (a : Option Addr) (k c : Nat) (e : Exp) (hC : Cx w0 w g P n)
  (hPt : ∀ W : World, Calls Tryz.prog 40 #[.pointer (some ⟨g, 0, none⟩), .string o] W fun e w' => e = .returned (.func (.func 68) #[] #[.pointer (some ⟨W.heap.size, 0, none⟩)]) /\ w' = W.alloc (.cells #[.pointer (some ⟨g, 0, none⟩)] 54))
  (hF : Calls Tryz.prog 68 (#[exV o t (.slice a k c), .pointer (some ⟨w.heap.size + 1, 0, none⟩)]) (partW w g o t (.slice a k c)) (Prt w0.heap.size g P (pcX e) n (brX e) (partW w g o t (.slice a k c)))) :
  Calls Tryz.prog 23 #[.pointer (some ⟨g, 0, none⟩), exV o t (.slice a k c)] w (Prt w0.heap.size g P (pcX e) n (brX e) w) := by
 have HE := Lib.hid (fun W' hp => part_end (o := o) (t := t) (s := .slice a k c) (P := P) (Q := pcX e) (n := n) (m := brX e) hC (W' := W') hp); unfold partW at hF; clear hC; go_enter Tryz.func23, Tryz.ntmps23; go_wp2_with fail
 go_region_law (first
  | (go_simp; go_at_call 40; refine (hPt _).mono ?_; rintro _ _ ⟨rfl, rfl⟩)
  | (go_simp; go_at_call 68; refine hF.mono ?_; rintro _ w5 ⟨rfl, h5⟩))
 all_goals
  go_wp2_with fail; refine bodyPost_end (v := .tuple #[]) (by simp [results, Tryz.results23, go_sem]) rfl ?_
  exact HE.out _ ⟨rfl, h5⟩
theorem expr_list (w0 w : World) (g n : Nat) (P : Pcs) (o t : ByteArray) (a : Option Addr) (k c : Nat) (e : Exp) (hC : Cx w0 w g P n)
  (hPt : ∀ W : World, Calls Tryz.prog 40 #[.pointer (some ⟨g, 0, none⟩), .string o] W fun e w' => e = .returned (.func (.func 71) #[] #[.pointer (some ⟨W.heap.size, 0, none⟩)]) /\ w' = W.alloc (.cells #[.pointer (some ⟨g, 0, none⟩)] 54))
  (hF : Calls Tryz.prog 71 (#[exV o t (.slice a k c), .pointer (some ⟨w.heap.size + 1, 0, none⟩)]) (partW w g o t (.slice a k c)) (Prt w0.heap.size g P (pcX e) n (brX e) (partW w g o t (.slice a k c)))) :
  Calls Tryz.prog 23 #[.pointer (some ⟨g, 0, none⟩), exV o t (.slice a k c)] w (Prt w0.heap.size g P (pcX e) n (brX e) w) := by
 have HE := Lib.hid (fun W' hp => part_end (o := o) (t := t) (s := .slice a k c) (P := P) (Q := pcX e) (n := n) (m := brX e) hC (W' := W') hp); unfold partW at hF; clear hC; go_enter Tryz.func23, Tryz.ntmps23; go_wp2_with fail
 go_region_law (first
  | (go_simp; go_at_call 40; refine (hPt _).mono ?_; rintro _ _ ⟨rfl, rfl⟩)
  | (go_simp; go_at_call 71; refine hF.mono ?_; rintro _ w5 ⟨rfl, h5⟩))
 all_goals
  go_wp2_with fail; refine bodyPost_end (v := .tuple #[]) (by simp [results, Tryz.results23, go_sem]) rfl ?_
  exact HE.out _ ⟨rfl, h5⟩
theorem expr_text (w0 w : World) (g n : Nat) (P : Pcs) (o t : ByteArray) (a : Option Addr) (k c : Nat) (e : Exp) (hC : Cx w0 w g P n)
  (hPt : ∀ W : World, Calls Tryz.prog 40 #[.pointer (some ⟨g, 0, none⟩), .string o] W fun e w' => e = .returned (.func (.func 69) #[.pointer (some ⟨g, 0, none⟩)] #[]) /\ w' = W.alloc (.cells #[.pointer (some ⟨g, 0, none⟩)] 54))
  (hF : Calls Tryz.prog 69 (#[.pointer (some ⟨g, 0, none⟩), exV o t (.slice a k c)]) (partW w g o t (.slice a k c)) (Prt w0.heap.size g P (pcX e) n (brX e) (partW w g o t (.slice a k c)))) :
  Calls Tryz.prog 23 #[.pointer (some ⟨g, 0, none⟩), exV o t (.slice a k c)] w (Prt w0.heap.size g P (pcX e) n (brX e) w) := by
 have HE := Lib.hid (fun W' hp => part_end (o := o) (t := t) (s := .slice a k c) (P := P) (Q := pcX e) (n := n) (m := brX e) hC (W' := W') hp); unfold partW at hF; clear hC; go_enter Tryz.func23, Tryz.ntmps23; go_wp2_with fail
 go_region_law (first
  | (go_simp; go_at_call 40; refine (hPt _).mono ?_; rintro _ _ ⟨rfl, rfl⟩)
  | (go_simp; go_at_call 69; refine hF.mono ?_; rintro _ w5 ⟨rfl, h5⟩))
 all_goals
  go_wp2_with fail; refine bodyPost_end (v := .tuple #[]) (by simp [results, Tryz.results23, go_sem]) rfl ?_
  exact HE.out _ ⟨rfl, h5⟩
theorem expr_call (w0 w : World) (g n : Nat) (P : Pcs) (o t : ByteArray) (a : Option Addr) (k c : Nat) (e : Exp) (hC : Cx w0 w g P n)
  (hPt : ∀ W : World, Calls Tryz.prog 40 #[.pointer (some ⟨g, 0, none⟩), .string o] W fun e w' => e = .returned (.func (.func 70) #[.pointer (some ⟨g, 0, none⟩)] #[]) /\ w' = W.alloc (.cells #[.pointer (some ⟨g, 0, none⟩)] 54))
  (hF : Calls Tryz.prog 70 (#[.pointer (some ⟨g, 0, none⟩), exV o t (.slice a k c)]) (partW w g o t (.slice a k c)) (Prt w0.heap.size g P (pcX e) n (brX e) (partW w g o t (.slice a k c)))) :
  Calls Tryz.prog 23 #[.pointer (some ⟨g, 0, none⟩), exV o t (.slice a k c)] w (Prt w0.heap.size g P (pcX e) n (brX e) w) := by
 have HE := Lib.hid (fun W' hp => part_end (o := o) (t := t) (s := .slice a k c) (P := P) (Q := pcX e) (n := n) (m := brX e) hC (W' := W') hp); unfold partW at hF; clear hC; go_enter Tryz.func23, Tryz.ntmps23; go_wp2_with fail
 go_region_law (first
  | (go_simp; go_at_call 40; refine (hPt _).mono ?_; rintro _ _ ⟨rfl, rfl⟩)
  | (go_simp; go_at_call 70; refine hF.mono ?_; rintro _ w5 ⟨rfl, h5⟩))
 all_goals
  go_wp2_with fail; refine bodyPost_end (v := .tuple #[]) (by simp [results, Tryz.results23, go_sem]) rfl ?_
  exact HE.out _ ⟨rfl, h5⟩
theorem expr_get (w0 w : World) (g n : Nat) (P : Pcs) (o t : ByteArray) (a : Option Addr) (k c : Nat) (e : Exp) (hC : Cx w0 w g P n)
  (hPt : ∀ W : World, Calls Tryz.prog 40 #[.pointer (some ⟨g, 0, none⟩), .string o] W fun e w' => e = .returned (.func (.func 73) #[.pointer (some ⟨g, 0, none⟩)] #[]) /\ w' = W.alloc (.cells #[.pointer (some ⟨g, 0, none⟩)] 54))
  (hF : Calls Tryz.prog 73 (#[.pointer (some ⟨g, 0, none⟩), exV o t (.slice a k c)]) (partW w g o t (.slice a k c)) (Prt w0.heap.size g P (pcX e) n (brX e) (partW w g o t (.slice a k c)))) :
  Calls Tryz.prog 23 #[.pointer (some ⟨g, 0, none⟩), exV o t (.slice a k c)] w (Prt w0.heap.size g P (pcX e) n (brX e) w) := by
 have HE := Lib.hid (fun W' hp => part_end (o := o) (t := t) (s := .slice a k c) (P := P) (Q := pcX e) (n := n) (m := brX e) hC (W' := W') hp); unfold partW at hF; clear hC; go_enter Tryz.func23, Tryz.ntmps23; go_wp2_with fail
 go_region_law (first
  | (go_simp; go_at_call 40; refine (hPt _).mono ?_; rintro _ _ ⟨rfl, rfl⟩)
  | (go_simp; go_at_call 73; refine hF.mono ?_; rintro _ w5 ⟨rfl, h5⟩))
 all_goals
  go_wp2_with fail; refine bodyPost_end (v := .tuple #[]) (by simp [results, Tryz.results23, go_sem]) rfl ?_
  exact HE.out _ ⟨rfl, h5⟩
theorem expr_at (w0 w : World) (g n : Nat) (P : Pcs) (o t : ByteArray) (a : Option Addr) (k c : Nat) (e : Exp) (hC : Cx w0 w g P n)
  (hPt : ∀ W : World, Calls Tryz.prog 40 #[.pointer (some ⟨g, 0, none⟩), .string o] W fun e w' => e = .returned (.func (.func 74) #[.pointer (some ⟨g, 0, none⟩)] #[]) /\ w' = W.alloc (.cells #[.pointer (some ⟨g, 0, none⟩)] 54))
  (hF : Calls Tryz.prog 74 (#[.pointer (some ⟨g, 0, none⟩), exV o t (.slice a k c)]) (partW w g o t (.slice a k c)) (Prt w0.heap.size g P (pcX e) n (brX e) (partW w g o t (.slice a k c)))) :
  Calls Tryz.prog 23 #[.pointer (some ⟨g, 0, none⟩), exV o t (.slice a k c)] w (Prt w0.heap.size g P (pcX e) n (brX e) w) := by
 have HE := Lib.hid (fun W' hp => part_end (o := o) (t := t) (s := .slice a k c) (P := P) (Q := pcX e) (n := n) (m := brX e) hC (W' := W') hp); unfold partW at hF; clear hC; go_enter Tryz.func23, Tryz.ntmps23; go_wp2_with fail
 go_region_law (first
  | (go_simp; go_at_call 40; refine (hPt _).mono ?_; rintro _ _ ⟨rfl, rfl⟩)
  | (go_simp; go_at_call 74; refine hF.mono ?_; rintro _ w5 ⟨rfl, h5⟩))
 all_goals
  go_wp2_with fail; refine bodyPost_end (v := .tuple #[]) (by simp [results, Tryz.results23, go_sem]) rfl ?_
  exact HE.out _ ⟨rfl, h5⟩
theorem expr_tight (w0 w : World) (g n : Nat) (P : Pcs) (o t : ByteArray) (a : Option Addr) (k c : Nat) (e : Exp) (hC : Cx w0 w g P n)
  (hPt : ∀ W : World, Calls Tryz.prog 40 #[.pointer (some ⟨g, 0, none⟩), .string o] W fun e w' => e = .returned (.func (.func 75) #[.pointer (some ⟨g, 0, none⟩)] #[]) /\ w' = W.alloc (.cells #[.pointer (some ⟨g, 0, none⟩)] 54))
  (hF : Calls Tryz.prog 75 (#[.pointer (some ⟨g, 0, none⟩), exV o t (.slice a k c)]) (partW w g o t (.slice a k c)) (Prt w0.heap.size g P (pcX e) n (brX e) (partW w g o t (.slice a k c)))) :
  Calls Tryz.prog 23 #[.pointer (some ⟨g, 0, none⟩), exV o t (.slice a k c)] w (Prt w0.heap.size g P (pcX e) n (brX e) w) := by
 have HE := Lib.hid (fun W' hp => part_end (o := o) (t := t) (s := .slice a k c) (P := P) (Q := pcX e) (n := n) (m := brX e) hC (W' := W') hp); unfold partW at hF; clear hC; go_enter Tryz.func23, Tryz.ntmps23; go_wp2_with fail
 go_region_law (first
  | (go_simp; go_at_call 40; refine (hPt _).mono ?_; rintro _ _ ⟨rfl, rfl⟩)
  | (go_simp; go_at_call 75; refine hF.mono ?_; rintro _ w5 ⟨rfl, h5⟩))
 all_goals
  go_wp2_with fail; refine bodyPost_end (v := .tuple #[]) (by simp [results, Tryz.results23, go_sem]) rfl ?_
  exact HE.out _ ⟨rfl, h5⟩
theorem expr_choice (w0 w : World) (g n : Nat) (P : Pcs) (o t : ByteArray) (a : Option Addr) (k c : Nat) (e : Exp) (hC : Cx w0 w g P n)
  (hPt : ∀ W : World, Calls Tryz.prog 40 #[.pointer (some ⟨g, 0, none⟩), .string o] W fun e w' => e = .returned (.func (.func 76) #[.pointer (some ⟨g, 0, none⟩)] #[]) /\ w' = W.alloc (.cells #[.pointer (some ⟨g, 0, none⟩)] 54))
  (hF : Calls Tryz.prog 76 (#[.pointer (some ⟨g, 0, none⟩), exV o t (.slice a k c)]) (partW w g o t (.slice a k c)) (Prt w0.heap.size g P (pcX e) n (brX e) (partW w g o t (.slice a k c)))) :
  Calls Tryz.prog 23 #[.pointer (some ⟨g, 0, none⟩), exV o t (.slice a k c)] w (Prt w0.heap.size g P (pcX e) n (brX e) w) := by
 have HE := Lib.hid (fun W' hp => part_end (o := o) (t := t) (s := .slice a k c) (P := P) (Q := pcX e) (n := n) (m := brX e) hC (W' := W') hp); unfold partW at hF; clear hC; go_enter Tryz.func23, Tryz.ntmps23; go_wp2_with fail
 go_region_law (first
  | (go_simp; go_at_call 40; refine (hPt _).mono ?_; rintro _ _ ⟨rfl, rfl⟩)
  | (go_simp; go_at_call 76; refine hF.mono ?_; rintro _ w5 ⟨rfl, h5⟩))
 all_goals
  go_wp2_with fail; refine bodyPost_end (v := .tuple #[]) (by simp [results, Tryz.results23, go_sem]) rfl ?_
  exact HE.out _ ⟨rfl, h5⟩
theorem expr_two (w0 w : World) (g n : Nat) (P : Pcs) (o t : ByteArray) (a : Option Addr) (k c : Nat) (e : Exp) (hC : Cx w0 w g P n)
  (hPt : ∀ W : World, Calls Tryz.prog 40 #[.pointer (some ⟨g, 0, none⟩), .string o] W fun e w' => e = .returned (.func (.func 77) #[.pointer (some ⟨g, 0, none⟩)] #[]) /\ w' = W.alloc (.cells #[.pointer (some ⟨g, 0, none⟩)] 54))
  (hF : Calls Tryz.prog 77 (#[.pointer (some ⟨g, 0, none⟩), exV o t (.slice a k c)]) (partW w g o t (.slice a k c)) (Prt w0.heap.size g P (pcX e) n (brX e) (partW w g o t (.slice a k c)))) :
  Calls Tryz.prog 23 #[.pointer (some ⟨g, 0, none⟩), exV o t (.slice a k c)] w (Prt w0.heap.size g P (pcX e) n (brX e) w) := by
 have HE := Lib.hid (fun W' hp => part_end (o := o) (t := t) (s := .slice a k c) (P := P) (Q := pcX e) (n := n) (m := brX e) hC (W' := W') hp); unfold partW at hF; clear hC; go_enter Tryz.func23, Tryz.ntmps23; go_wp2_with fail
 go_region_law (first
  | (go_simp; go_at_call 40; refine (hPt _).mono ?_; rintro _ _ ⟨rfl, rfl⟩)
  | (go_simp; go_at_call 77; refine hF.mono ?_; rintro _ w5 ⟨rfl, h5⟩))
 all_goals
  go_wp2_with fail; refine bodyPost_end (v := .tuple #[]) (by simp [results, Tryz.results23, go_sem]) rfl ?_
  exact HE.out _ ⟨rfl, h5⟩
theorem expr_step (o t : ByteArray) (ks : List Exp) (hs : Shp o t ks) (ht : t.size <= 1048576) (h : ∀ k ∈ ks, ExprC k) : ExprC (.mk o t ks) := by
 intro w0 w g n P o' t' a k c hT hC hX hw; obtain ⟨rfl, rfl, -⟩ := exp_top hX; have hCp := hC.part o' t' (.slice a k c); obtain ⟨hb, hbl⟩ := part_box w g o' t' (.slice a k c)
 cases hs with
 | name => exact expr_name w0 w g n P _ _ a k c _ hC (fun W => part_name W g) (name_any w0 _ g n P _ _ a k c _ _ hb hbl hCp hX hw)
 | num => exact expr_num w0 w g n P _ _ a k c _ hC (fun W => part_num W g) (num_any w0 _ g n P _ _ a k c _ _ hb hbl hCp hX hw)
 | text _ hv => exact expr_text w0 w g n P _ _ a k c _ hC (fun W => part_text W g) (text_any w0 _ g n P _ _ a k c _ hv hT hCp hX hw ht)
 | call => exact expr_call w0 w g n P _ _ a k c _ hC (fun W => part_call W g) (call_any w0 _ g n P _ _ a k c _ _ h hT hCp hX hw)
 | list => exact expr_list w0 w g n P _ _ a k c _ hC (fun W => part_list W g) (list_any w0 _ g n P _ _ a k c _ _ _ hb hbl h hT hCp hX hw)
 | get _ x => exact expr_get w0 w g n P _ _ a k c _ hC (fun W => part_get W g) (get_any w0 _ g n P _ _ a k c _ x (h x (by simp)) hT hCp hX hw)
 | at_ x y => exact expr_at w0 w g n P _ _ a k c _ hC (fun W => part_at W g) (at_any w0 _ g n P _ _ a k c _ x y (h x (by simp)) (h y (by simp)) hT hCp hX hw)
 | bang x => exact expr_tight w0 w g n P _ _ a k c _ hC (fun W => part_bang W g) (bang_any w0 _ g n P _ _ a k c _ x (h x (by simp)) hT hCp hX hw)
 | neg x => exact expr_tight w0 w g n P _ _ a k c _ hC (fun W => part_neg W g) (neg_any w0 _ g n P _ _ a k c _ x (h x (by simp)) hT hCp hX hw)
 | choice x y z => exact expr_choice w0 w g n P _ _ a k c _ hC (fun W => part_quest W g) (quest_any w0 _ g n P _ _ a k c _ x y z (h x (by simp)) (h y (by simp)) (h z (by simp)) hT hCp hX hw)
 | two _ lv x y hl h1 h6 hn hm => exact expr_two w0 w g n P _ _ a k c _ hC (fun W => part_two _ hm W g) (two_any w0 _ g n P _ _ a k c _ _ x y hn (by omega) (by omega) (h x (by simp)) (h y (by simp)) hT hCp hX hw)
theorem exprC_upto : ∀ (n : Nat) (e : Exp), e.bulk <= n -> rightX e = true -> ShortX e -> ExprC e
 | 0, e, hb, _, _ => by have := bulkX_pos e; omega
 | n + 1, .mk o t ks, hb, hr, hs => by
  obtain ⟨h1, h2⟩ := Shp.ok hr; simp only [ShortX] at hs; refine expr_step o t ks h1 (by omega) (fun k hk => ?_)
  obtain ⟨j, hj, rfl⟩ := List.mem_iff_getElem.1 hk; have hbk := bulkX_kid hj; simp only [Exp.bulk] at hb; exact exprC_upto n _ (by omega) (h2 _ hk) (ShortXs.kid hj hs.2.2)
theorem exprC_all (e : Exp) (hr : rightX e = true) (hs : ShortX e) : ExprC e := exprC_upto _ e (Nat.le_refl _) hr hs
theorem OwnT.one (base : Nat) (w : World) (t : Tok) (hb : base <= w.heap.size) : OwnT base (w.alloc (.cells #[.int .i64 t.kind, .string t.text, .int .i64 t.pos] 36)) (.slice (some ⟨w.heap.size, 0, none⟩) 1 1) [t] := by
 have h := World.ownsRow_lit (base := base) (e := 36) (size := 3) w #[.int .i64 t.kind, .string t.text, .int .i64 t.pos] 1 hb (by decide) (by simp)
 unfold OwnT
 simpa [tokC] using h
def TellP (w : World) (l : List Tok) (a e : Int) (r : Ending) (w' : World) : Prop := ∃ v, r = .returned (.agg #[v, .int .i64 a, .int .i64 e]) /\ OwnT w.heap.size w' v l /\ Below w.heap.size w w'
theorem Letter_any (c : UInt8) (w : World) : Calls Tryz.prog 42 #[.int .u8 c.toNat] w fun e w' => e = .returned (.bool (letB c)) /\ w = w' := by
 have hL : letB c = (decide (65 <= c.toNat /\ c.toNat <= 90) || (decide (97 <= c.toNat /\ c.toNat <= 122) || decide (c.toNat = 95))) := rfl
 generalize letB c = b at hL; generalize c.toNat = n at hL
 have hr : ((n < 65 \/ (n < 97 /\ 65 <= n /\ 90 < n /\ n < 95) \/ (n < 97 /\ 65 <= n /\ 90 < n /\ n = 96) \/ (97 <= n /\ 122 < n)) /\ b = false) \/ (((n < 97 /\ 65 <= n /\ n <= 90) \/ (97 <= n /\ n <= 122) \/ (n < 97 /\ 65 <= n /\ 90 < n /\ n = 95)) /\ b = true) := by
  cases b with
  | false =>
   have h := hL.symm; simp only [Bool.or_eq_false_iff, decide_eq_false_iff_not] at h
   left
   exact ⟨by omega, rfl⟩
  | true =>
   have h := hL.symm; simp only [Bool.or_eq_true, decide_eq_true_eq] at h
   right
   exact ⟨by omega, rfl⟩
 clear hL; rcases hr with ⟨(h | ⟨h1, h2, h3, h4⟩ | ⟨h1, h2, h3, rfl⟩ | ⟨h1, h2⟩), rfl⟩ | ⟨(⟨h1, h2, h3⟩ | ⟨h1, h2⟩ | ⟨h1, h2, h3, rfl⟩), rfl⟩
 all_goals
  go_enter Tryz.func42, Tryz.ntmps42; go_wp2; go_ret; first
  | exact ⟨rfl, rfl⟩
  | exact ⟨ret_bool (by simp only [ne_eq, Bool.or_eq_false_iff, Bool.or_eq_true, Bool.and_eq_true, Bool.and_eq_false_iff, decide_eq_false_iff_not, decide_eq_true_eq, beq_eq_false_iff_ne, beq_iff_eq]; omega), rfl⟩
theorem Blank_any (c : UInt8) (w : World) : Calls Tryz.prog 26 #[.int .u8 c.toNat] w fun e w' => e = .returned (.bool (blankB c)) /\ w = w' := by
 by_cases h1 : c = 32
 ·subst h1
  go_enter Tryz.func26, Tryz.ntmps26; go_wp2; go_ret; exact ⟨rfl, rfl⟩
 by_cases h2 : c = 9
 ·subst h2
  go_enter Tryz.func26, Tryz.ntmps26; go_wp2; go_ret; exact ⟨rfl, rfl⟩
 by_cases h3 : c = 13
 ·subst h3
  go_enter Tryz.func26, Tryz.ntmps26; go_wp2; go_ret; exact ⟨rfl, rfl⟩
 have hb : blankB c = false := by simp [blankB, blanksB, h1, h2, h3]
 rw [hb]; have d1 := u8_nb h1 (m := 32) rfl; have d2 := u8_nb h2 (m := 9) rfl; have d3 := u8_nb h3 (m := 13) rfl; clear h1 h2 h3 hb; go_enter Tryz.func26, Tryz.ntmps26; go_wp2; go_ret; exact ⟨rfl, rfl⟩
theorem ext_pfx {s w : ByteArray} {k : Nat} (h : k + w.size <= s.size) : (s.extract k (k + w.size) = w) ↔ w.data.toList.isPrefixOf (s.data.toList.drop k) = true := by
 rw [List.isPrefixOf_iff_prefix]
 have e1 : (s.extract k (k + w.size)).data.toList = (s.data.toList.drop k).take w.data.toList.length := by
  rw [ext_list, List.drop_take, <- size_list]; congr 1; omega
 constructor
 ·intro he
  rw [he] at e1; rw [List.prefix_iff_eq_take]; exact e1
 ·intro hp
  apply str_ext
  rw [e1]; exact (List.prefix_iff_eq_take.1 hp).symm
theorem is_any (s : ByteArray) (k : Nat) (p : ByteArray) (w : World) (hs : s.size <= 1048576) (hk : k <= s.size) (hp : p.size <= 1000) :
  Calls Tryz.prog 46 #[.string s, .int .i64 (k : Nat), .string p] w fun e w' => e = .returned (.bool (p.data.toList.isPrefixOf (s.data.toList.drop k))) /\ w = w' := by
 by_cases h : k + p.size <= s.size
 ·have hx := ext_pfx h
  generalize p.data.toList.isPrefixOf (s.data.toList.drop k) = b at hx; have hsl : s.extract k (k + p.size) = s.extract k (k + p.size) := rfl; have HX := Lib.hid hx; clear hx
  cases b with
  | true =>
   have he := HX.out.2 rfl; go_enter Tryz.func46, Tryz.ntmps46; go_wp2; go_ret; exact ⟨rfl, rfl⟩
  | false =>
   have he := str_ne (fun e => by have := HX.out.1 e; cases this)
   go_enter Tryz.func46, Tryz.ntmps46; go_wp2; go_ret; exact ⟨rfl, rfl⟩
 ·have hb : p.data.toList.isPrefixOf (s.data.toList.drop k) = false := by
   rw [<- Bool.not_eq_true]; intro hp; have := (List.isPrefixOf_iff_prefix.1 hp).length_le; rw [List.length_drop, <- size_list, <- size_list] at this; omega
  rw [hb]; clear hb; go_enter Tryz.func46, Tryz.ntmps46; go_wp2; go_ret; exact ⟨rfl, rfl⟩
theorem lineN_step (l : Bs) (k : Nat) (h : k < l.length) : lineN (l.drop k) = if l[k] = 10 then 0 else lineN (l.drop (k + 1)) + 1 := by
 rw [List.drop_eq_getElem_cons h, lineN]
theorem end_any (s : ByteArray) (k : Nat) (w : World) (hs : s.size <= 1048576) (hk : k <= s.size) :
  Calls Tryz.prog 47 #[.string s, .int .i64 (k : Nat)] w fun e w' => e = .returned (.int .i64 ((k + lineN (s.data.toList.drop k) : Nat) : Int)) /\ w = w' := by
 obtain ⟨q, hq⟩ : ∃ q, k + lineN (s.data.toList.drop k) = q := ⟨_, rfl⟩; rw [hq]; have HQ := Lib.hid hq; clear hq; go_enter Tryz.func47, Tryz.ntmps47; go_wp2_with fail; go_loop [1] (fun i => ∃ j : Nat, i = .int .i64 (j : Int) /\ j <= s.size /\ j + lineN (s.data.toList.drop j) = q) (fun i => s.size - (intOf i).toNat)
 case atStart => exact ⟨k, rfl, hk, HQ.out⟩
 case round =>
  clear HQ; obtain ⟨j, rfl, hj, hI⟩ := hrel
  by_cases hlt : j < s.size
  ·have hst := lineN_step s.data.toList j (by rw [<- size_list]; exact hlt)
   rw [hst, <- get_list hlt] at hI; clear hst
   by_cases h10 : s[j]'hlt = 10
   ·have d : (((s[j]'hlt).toNat : Int) != 10) = false := by rw [h10]; rfl
    rw [if_pos h10] at hI; have HI := Lib.hid hI; clear hI h10; go_wp2; go_ret; exact ⟨ret_num (by have := HI.out; omega), rfl⟩
   ·have d : (((s[j]'hlt).toNat : Int) != 10) = true := by
     have := u8_nb h10 (m := 10) rfl; rw [beq_eq_false_iff_ne] at this; rw [bne_iff_ne]; exact this
    rw [if_neg h10] at hI; have HI := Lib.hid hI; clear hI h10; go_wp2; go_round
    case rel => exact ⟨j + 1, by go_num, by omega, by have := HI.out; omega⟩
    case measure => simp [intOf]; omega
  ·obtain rfl : j = s.size := by omega
   have he : lineN (s.data.toList.drop s.size) = 0 := by rw [size_list, List.drop_length]; rfl
   rw [he] at hI; have HI := Lib.hid hI; clear hI he; go_wp2; go_ret; exact ⟨ret_num (by have := HI.out; omega), rfl⟩
theorem token_any (s : ByteArray) (k n : Nat) (kd : Int) (w : World) (hs : s.size <= 1048576) (hk : k + n <= s.size) :
  Calls Tryz.prog 41 #[.string s, .int .i64 (k : Nat), .int .i64 kd, .int .i64 (n : Nat)] w (TellP w [⟨kd, s.extract k (k + n), (k : Nat)⟩] 0 0) := by
 go_enter Tryz.func41, Tryz.ntmps41; go_wp2; have hc := (Cells.new w #[.slice (some ⟨w.heap.size + 1, 0, none⟩) 1 1, .int .i64 0, .int .i64 0] 32).alloc (.cells #[.int .i64 kd, .string (s.extract k (k + n)), .int .i64 (k : Nat)] 36); have hcc0 := hc.cell 0 _ rfl; have hcf0 := hc.frozen 0; have hcc1 := hc.cell 1 _ rfl; have hcf1 := hc.frozen 1; have hcc2 := hc.cell 2 _ rfl; have hcf2 := hc.frozen 2; have hown := OwnT.one w.heap.size (w.alloc (.cells #[.slice (some ⟨w.heap.size + 1, 0, none⟩) 1 1, .int .i64 0, .int .i64 0] 32)) ⟨kd, s.extract k (k + n), (k : Nat)⟩ (by simp)
 rw [World.size_alloc] at hown; refine bodyPost_ret (v := .agg #[.slice (some ⟨w.heap.size + 1, 0, none⟩) 1 1, .int .i64 0, .int .i64 0]) (by simp [results, Tryz.results41, go_sem, hcc0, hcc1, hcc2]) rfl ?_
 exact ⟨_, rfl, hown, ((Below.refl _ w).alloc (Nat.le_refl _) _).alloc (by simp) _⟩
def lrT (s : ByteArray) (k : Nat) : LR -> List Tok × Int × Int
 | .tok kd n => ([⟨(kd : Nat), s.extract k (k + n), (k : Nat)⟩], 0, 0)
 | .bad o e => ([], ((k + o : Nat) : Int), e)
theorem bs_ext (s : ByteArray) (a b : Nat) : bs (s.extract a b) = nb ((s.data.toList.take b).drop a) := by
 unfold bs nb; rw [ext_list]
theorem nb_drop (l : Bs) (k : Nat) : nb (l.drop k) = (nb l).drop k := by unfold nb; rw [List.map_drop]
theorem comment_any (s : ByteArray) (k stop kd : Nat) (w : World) (hs : s.size <= 1048576) (hk : k <= stop) (hst : stop <= s.size) :
  Calls Tryz.prog 48 #[.string s, .int .i64 (k : Nat), .int .i64 (stop : Nat), .int .i64 (kd : Nat)] w
   (TellP w (lrT s k (remT ((s.data.toList.take stop).drop k) kd)).1 (lrT s k (remT ((s.data.toList.take stop).drop k) kd)).2.1 (lrT s k (remT ((s.data.toList.take stop).drop k) kd)).2.2) := by
 obtain ⟨L, hL⟩ : ∃ L, (s.data.toList.take stop).drop k = L := ⟨_, rfl⟩; have hLl : L.length = stop - k := by rw [<- hL, List.length_drop, List.length_take, <- size_list]; omega
 have hOne : ∀ (j : Nat) W, j <= L.length -> Calls Tryz.prog 82 #[.string (s.extract 0 stop), .int .i64 ((k + j : Nat) : Int)] W fun e w' => e = .returned (.tuple #[.int .i64 (oneN ((nb L).drop j)).1, .int .i64 (oneN ((nb L).drop j)).2]) /\ Below W.heap.size W w' := fun j W hj => by
  have h := One_any (s.extract 0 stop) (k + j) W (by rw [ext_size hst]; omega) (by rw [ext_size hst]; omega)
  rw [bs_ext, List.drop_zero] at h; rw [<- hL, nb_drop, List.drop_drop]; exact h
 rw [hL]; clear hL; go_enter Tryz.func48, Tryz.ntmps48; go_wp2_with fail; go_loopw [9, 10, 11] (fun i _ _ wr => ∃ (j : Nat) (pre : List (Nat × Nat)), i = .int .i64 ((k + j : Nat) : Int) /\ j <= L.length /\ Rest (nb L) j pre /\ (∀ x ∈ pre, badC x = false) /\ Below w.heap.size w wr /\ Cells wr w.heap.size #[.slice none 0 0, .int .i64 0, .int .i64 0] 32) (fun i _ _ _ => stop - (intOf i).toNat)
 case atStart => exact ⟨0, [], rfl, Nat.zero_le _, Rest.zero _, by simp, (Below.refl _ w).alloc (Nat.le_refl _) _, Cells.new w _ _⟩
 case round =>
  obtain ⟨j, pre, rfl, hj, hR, hg, hb, hc⟩ := hrel; have hlt := hc.lt
  by_cases h : j < L.length
  ·have hk1 : k + j < stop := by omega
   have hO := fun W => hOne j W hj; obtain ⟨c, n, h1⟩ : ∃ c n, oneN ((nb L).drop j) = (c, n) := ⟨_, _, rfl⟩; rw [h1] at hO; have hle := (oneN_le ((nb L).drop j) ((nb_byt L).drop j)).1; rw [h1] at hle; simp only [List.length_drop, nb_len] at hle; have HR := Lib.hid hR; have HG := Lib.hid hg; have H1 := Lib.hid h1; clear hR hg h1 hOne
   by_cases hn : n = 0
   ·subst hn
    have hw : wth L = some (j, 7) := by
     have h2 := HR.out.bad (by rw [nb_len]; exact h) (by rw [H1.out])
     rw [wth_none (by rw [h2]; exact HG.out), h2]
    have HW := Lib.hid hw; clear hw; go_wp2_with fail; refine (hO _).mono ?_; rintro _ w2 ⟨rfl, hb2⟩; have hc2 := hc.below hb2 hlt; have hlt2 := hc2.lt; have HB := Lib.hid (hb.trans (hb2.mono hb.size)); clear hb hb2 hc; have hc2c0 := hc2.cell 0 _ rfl; have hc2f0 := hc2.frozen 0; have hc2c1 := hc2.cell 1 _ rfl; have hc2f1 := hc2.frozen 1; have hc2c2 := hc2.cell 2 _ rfl; have hc2f2 := hc2.frozen 2; go_wp2; have hq := ((hc2.setI 0 (.slice none 0 0)).setI 1 (.int .i64 ((k : Int) + j))).setI 2 (.int .i64 7); have hx := hq.cell 0 _ rfl; have hy := hq.cell 1 _ rfl; have hz := hq.cell 2 _ rfl; refine bodyPost_ret (v := .agg #[.slice none 0 0, .int .i64 ((k : Int) + j), .int .i64 7]) (by simp [results, Tryz.results48, go_sem, hx, hy, hz]) rfl ?_
    rw [remT_some HW.out]; exact ⟨_, by simp [lrT], OwnT.nil, setAll_below _ _ (Nat.le_refl _) [.slice none 0 0, .int .i64 ((k : Int) + j), .int .i64 7] 0 _ _ HB.out⟩
   ·have hgd := HR.out.good (by rw [nb_len]; exact h) H1.out hn
    have hn2 : ((n : Int) == 0) = false := by rw [beq_eq_false_iff_ne]; omega
    have HGD := Lib.hid hgd; clear hgd
    by_cases hx : c < 32 /\ c ≠ 9
    ·have d1 : decide ((c : Int) < 32) = true := by rw [decide_eq_true_eq]; omega
     have d2 : ((c : Int) != 9) = true := by rw [bne_iff_ne]; omega
     have hbx : badC (j, c) = true := by simp [badC, hx.1, hx.2]
     have hw : wth L = some (j, 3) := wth_some (x := (j, c)) ⟨(scan ((nb L).drop (j + n)) (j + n)).1, by have := HGD.out; unfold Rest at this; rw [this]⟩ HG.out hbx
     clear hx hbx; have HW := Lib.hid hw; clear hw; go_wp2_with fail; refine (hO _).mono ?_; rintro _ w2 ⟨rfl, hb2⟩; have hc2 := hc.below hb2 hlt; have hlt2 := hc2.lt; have HB := Lib.hid (hb.trans (hb2.mono hb.size)); clear hb hb2 hc; have hc2c0 := hc2.cell 0 _ rfl; have hc2f0 := hc2.frozen 0; have hc2c1 := hc2.cell 1 _ rfl; have hc2f1 := hc2.frozen 1; have hc2c2 := hc2.cell 2 _ rfl; have hc2f2 := hc2.frozen 2; go_wp2; have hq := ((hc2.setI 0 (.slice none 0 0)).setI 1 (.int .i64 ((k : Int) + j))).setI 2 (.int .i64 3); have hx := hq.cell 0 _ rfl; have hy := hq.cell 1 _ rfl; have hz := hq.cell 2 _ rfl; refine bodyPost_ret (v := .agg #[.slice none 0 0, .int .i64 ((k : Int) + j), .int .i64 3]) (by simp [results, Tryz.results48, go_sem, hx, hy, hz]) rfl ?_
     rw [remT_some HW.out]; exact ⟨_, by simp [lrT], OwnT.nil, setAll_below _ _ (Nat.le_refl _) [.slice none 0 0, .int .i64 ((k : Int) + j), .int .i64 3] 0 _ _ HB.out⟩
    ·have hbx : badC (j, c) = false := by
      simp only [badC, Bool.and_eq_false_iff, decide_eq_false_iff_not, bne_eq_false_iff_eq]; omega
     have HGS := Lib.hid (good_snoc HG.out hbx); have hr : 32 <= c \/ c = 9 := by omega
     have hnp : 1 <= n := by omega
     clear hx hbx hn; rcases hr with hr | hr
     ·have d1 : decide ((c : Int) < 32) = false := by rw [decide_eq_false_iff_not]; omega
      go_wp2_with fail; refine (hO _).mono ?_; rintro _ w2 ⟨rfl, hb2⟩; have hc2 := hc.below hb2 hlt; have hb3 := hb.trans (hb2.mono hb.size); go_wp2; go_roundw
      case rel => exact ⟨j + n, _, by go_num, by omega, HGD.out, HGS.out, hb3, hc2⟩
      case measure => simp [intOf]; omega
     ·have d1 : decide ((c : Int) < 32) = true := by rw [decide_eq_true_eq]; omega
      have d2 : ((c : Int) != 9) = false := by rw [bne_eq_false_iff_eq]; omega
      go_wp2_with fail; refine (hO _).mono ?_; rintro _ w2 ⟨rfl, hb2⟩; have hc2 := hc.below hb2 hlt; have hb3 := hb.trans (hb2.mono hb.size); go_wp2; go_roundw
      case rel => exact ⟨j + n, _, by go_num, by omega, HGD.out, HGS.out, hb3, hc2⟩
      case measure => simp [intOf]; omega
  ·obtain rfl : j = L.length := by omega
   have hw : wth L = none := by
    have h2 := hR.done (by rw [nb_len])
    rw [wth_none (by rw [h2]; exact hg), h2]
   have hkL : k + L.length = stop := by omega
   have HW := Lib.hid hw; have HLL := Lib.hid hLl; clear hw hR hg hOne h hLl; rw [hkL]; have hc2 := hc; have HB := Lib.hid hb; clear hb; have hcc0 := hc.cell 0 _ rfl; have hcf0 := hc.frozen 0; have hcc1 := hc.cell 1 _ rfl; have hcf1 := hc.frozen 1; have hcc2 := hc.cell 2 _ rfl; have hcf2 := hc.frozen 2; go_wp2; have hq := (((hc2.setI 0 (.slice (some ⟨wr.heap.size, 0, none⟩) 1 1)).setI 1 (.int .i64 0)).setI 2 (.int .i64 0)).alloc (.cells #[.int .i64 (kd : Nat), .string (s.extract k stop), .int .i64 (k : Nat)] 36); have hx := hq.cell 0 _ rfl; have hy := hq.cell 1 _ rfl; have hz := hq.cell 2 _ rfl; refine bodyPost_ret (v := .agg #[.slice (some ⟨wr.heap.size, 0, none⟩) 1 1, .int .i64 0, .int .i64 0]) (by simp [results, Tryz.results48, go_sem, hx, hy, hz]) rfl ?_
   rw [remT_none HW.out]; have hown := OwnT.one w.heap.size (setAll wr w.heap.size 0 [.slice (some ⟨wr.heap.size, 0, none⟩) 1 1, .int .i64 0, .int .i64 0]) ⟨(kd : Nat), s.extract k (k + L.length), (k : Nat)⟩ (by rw [setAll_size]; exact HB.out.size)
   rw [setAll_size, hkL] at hown; exact ⟨_, rfl, by simp only [lrT]; rw [hkL]; exact hown, (setAll_below _ _ (Nat.le_refl _) [.slice (some ⟨wr.heap.size, 0, none⟩) 1 1, .int .i64 0, .int .i64 0] 0 _ _ HB.out).alloc (by rw [setAll_size]; exact HB.out.size) _⟩
end Go.Proofs.YthbhknfhmkhfgaaGreatDoor
namespace Go.Proofs.YthbhknfhmkhfgaaGreatDoor
set_option maxRecDepth 100000
set_option maxHeartbeats 20000000
def stF (x : Bs × Int × Bool) (c : UInt8) : Bs × Int × Bool :=
 if c = 46 then (x.1, x.2.1, true) else (if x.1 ≠ [] \/ c ≠ 48 then x.1 ++ [c] else x.1, if x.2.2 then x.2.1 - 1 else x.2.1, x.2.2)
theorem trimL_snoc (a : Bs) (c : UInt8) : Lib.trimLeftB (a ++ [c]) 48 = if Lib.trimLeftB a 48 ≠ [] \/ c ≠ 48 then Lib.trimLeftB a 48 ++ [c] else Lib.trimLeftB a 48 := by
 unfold Lib.trimLeftB
 induction a with
 | nil =>
  by_cases h : c = 48
  ·subst h; rfl
  ·simp [h, List.dropWhile]
 | cons x a ih =>
  by_cases h : x = 48
  ·subst h
   simpa [List.dropWhile_cons] using ih
  ·simp [List.dropWhile_cons, h]
theorem stF_digits (p : Bool) : ∀ (b a : Bs) (e : Int), b.all dg = true -> b.foldl stF (Lib.trimLeftB a 48, e, p) = (Lib.trimLeftB (a ++ b) 48, if p then e - b.length else e, p)
 | [], a, e, _ => by simp
 | c :: b, a, e, h => by
  rw [List.all_cons, Bool.and_eq_true] at h; have hc : c ≠ 46 := dg_ne h.1 (by decide)
  have h1 : stF (Lib.trimLeftB a 48, e, p) c = (Lib.trimLeftB (a ++ [c]) 48, if p then e - 1 else e, p) := by
   rw [stF, if_neg hc, trimL_snoc]
  rw [List.foldl_cons, h1, stF_digits p b (a ++ [c]) _ h.2, List.append_assoc, List.singleton_append, List.length_cons]; cases p
  ·rfl
  ·simp only [if_true]
   congr 2
   omega
section
variable {l : Bs} {neg : Bool} {ip fr mk sg pw : Bs}
theorem NumTxt.gather (h : NumTxt l neg ip fr mk sg pw) : ∃ p, (frontT ip fr).foldl stF ([], 0, false) = (valD ip fr, -(fr.length : Int), p) := by
 have e0 : (([] : Bs), (0 : Int), false) = (Lib.trimLeftB [] 48, (0 : Int), false) := rfl; rw [frontT, List.foldl_append, e0, stF_digits false ip [] 0 h.dip, List.nil_append]
 by_cases hf : fr = []
 ·subst hf
  exact ⟨false, by simp [valD]⟩
 ·rw [if_neg hf, List.foldl_cons]
  have h1 : stF (Lib.trimLeftB ip 48, if false then (0 : Int) - ip.length else 0, false) 46 = (Lib.trimLeftB ip 48, 0, true) := rfl; rw [h1, stF_digits true fr ip 0 h.dfr]; exact ⟨true, by simp [valD]⟩
end
def stP (x : Nat × Bool) (c : UInt8) : Nat × Bool := (if dg c then addQ x.1 c else x.1, x.2 || decide (c = 45))
theorem stP_digits : ∀ (b : Bs) (n : Nat) (p : Bool), b.all dg = true -> b.foldl stP (n, p) = (b.foldl addQ n, p)
 | [], _, _, _ => rfl
 | c :: b, n, p, h => by
  rw [List.all_cons, Bool.and_eq_true] at h; have hc : decide (c = 45) = false := decide_eq_false (dg_ne h.1 (by decide))
  rw [List.foldl_cons, List.foldl_cons, stP, if_pos h.1, hc, Bool.or_false, stP_digits b _ p h.2]
theorem power_gather (sg pw : Bs) (hs : sg = [] \/ sg = [43] \/ sg = [45]) (hp : pw.all dg = true) : (sg ++ pw).foldl stP (0, false) = (pw.foldl addQ 0, decide (sg = [45])) := by
 rcases hs with rfl | rfl | rfl
 ·exact stP_digits pw 0 false hp
 ·rw [List.foldl_append]; exact stP_digits pw 0 false hp
 ·rw [List.foldl_append]; exact stP_digits pw 0 true hp
theorem trimR_snoc (a : Bs) (c : UInt8) : Lib.trimRightB (a ++ [c]) 48 = if c = 48 then Lib.trimRightB a 48 else a ++ [c] := by
 unfold Lib.trimRightB; rw [List.reverse_append, List.reverse_cons, List.reverse_nil, List.nil_append, List.singleton_append, List.dropWhile_cons]
 by_cases h : c = 48
 ·subst h; simp
 ·simp [h]
end Go.Proofs.YthbhknfhmkhfgaaGreatDoor
namespace Go.Proofs.YthbhknfhmkhfgaaGreatDoor
set_option maxRecDepth 100000
set_option maxHeartbeats 20000000
open Go.RowKit Go.Tab
theorem rdig_yes (s : ByteArray) (k : Nat) (w : World) (h : k < s.size) (hd : 48 <= (s[k]'h).toNat /\ (s[k]'h).toNat <= 57) :
  Calls Tryz.prog 78 #[.string s, .int .i64 k] w fun r w' => r = .returned (.bool true) /\ w = w' := by
 go_enter Tryz.func78, Tryz.ntmps78; go_wp2; go_ret; refine ⟨?_, rfl⟩; show Ending.returned (.bool (decide _)) = _; rw [decide_eq_true (by omega)]
theorem rdig_no (s : ByteArray) (k : Nat) (w : World) (h : k < s.size) (hd : ¬ (48 <= (s[k]'h).toNat /\ (s[k]'h).toNat <= 57)) :
  Calls Tryz.prog 78 #[.string s, .int .i64 k] w fun r w' => r = .returned (.bool false) /\ w = w' := by
 have hdg' : (s[k]'h).toNat < 48 \/ (48 <= (s[k]'h).toNat /\ 57 < (s[k]'h).toNat) := by omega
 clear hd; rcases hdg' with hdg | hdg
 all_goals
  go_enter Tryz.func78, Tryz.ntmps78; go_wp2; go_ret; refine ⟨?_, rfl⟩; first | rfl | (show Ending.returned (.bool (decide _)) = _; rw [decide_eq_false (by omega)])
theorem rNumRight_any (neg : Bool) (d : ByteArray) (e : Int) (w : World) (hd : d.size <= 1048576) :
  Calls Tryz.prog 80 #[.agg #[.bool neg, .string d, .int .i64 e]] w fun r w' => r = .returned (.bool (numR neg d e)) /\ Below w.heap.size w w' := by
 have hx0 := Cells.new w #[.bool neg, .string d, .int .i64 e] 83; have hb0 : Below w.heap.size w (w.alloc (.cells #[.bool neg, .string d, .int .i64 e] 83)) := (Below.refl _ w).alloc (Nat.le_refl _) _
 by_cases h0 : d.size = 0
 ·have hR := Lib.hid (numR_empty (neg := neg) (e := e) h0)
  cases neg
  all_goals
   go_enter Tryz.func80, Tryz.ntmps80; go_wp2; go_ret; refine ⟨?_, hb0⟩; rw [hR.out]; first | rfl | (congr 2; by_cases he : e = 0 <;> simp [he])
 ·by_cases h1 : 1000 < d.size \/ e < -10000 \/ 10000 < e
  ·have hR := Lib.hid (numR_great (neg := neg) h0 h1)
   have h1' : 1000 < d.size \/ (d.size <= 1000 /\ e < -10000) \/ (d.size <= 1000 /\ -10000 <= e /\ 10000 < e) := by omega
   clear h1; have q0 : ((d.size : Int) == 0) = false := by rw [beq_eq_false_iff_ne]; omega
   have q1 : decide ((1000 : Int) < (d.size : Int)) = decide (1000 < d.size) := by congr 1; apply propext; omega
   have q2 : decide (e < -10000) = decide (e < -10000) := rfl; rcases h1' with h1 | ⟨h1, h2⟩ | ⟨h1, h2, h3⟩
   all_goals
    go_enter Tryz.func80, Tryz.ntmps80; go_wp2; go_ret; refine ⟨?_, hb0⟩; rw [hR.out]; try rfl
  ·have H1 := Lib.hid h1
   have h2 : d.size <= 1000 /\ -10000 <= e /\ e <= 10000 := by omega
   clear h1; have hp : 0 < d.size := by omega
   go_enter Tryz.func80, Tryz.ntmps80; go_wp2_with fail; go_loop [3] (fun i => ∃ k : Nat, k <= d.size /\ i = .int .i64 (k : Int) /\ ∀ j (hj : j < d.size), j < k -> 48 <= (d[j]'hj).toNat /\ (d[j]'hj).toNat <= 57) (fun i => d.size - (intOf i).toNat)
   case atStart => exact ⟨0, Nat.zero_le _, rfl, fun j _ h => by omega⟩
   case round =>
    obtain ⟨k, hk, rfl, hall⟩ := hrel; have HA := Lib.hid hall; clear hall; have hx0c0 := hx0.cell 0 _ rfl; have hx0f0 := hx0.frozen 0; have hx0c1 := hx0.cell 1 _ rfl; have hx0f1 := hx0.frozen 1; have hx0c2 := hx0.cell 2 _ rfl; have hx0f2 := hx0.frozen 2
    by_cases hkl : k < d.size
    ·by_cases hdg : 48 <= (d[k]'hkl).toNat /\ (d[k]'hkl).toNat <= 57
     ·have HA2 : Hid (∀ j (hj : j < d.size), j < k + 1 -> 48 <= (d[j]'hj).toNat /\ (d[j]'hj).toNat <= 57) := Lib.hid (fun j hj h => by
       by_cases hjk : j = k
       ·subst hjk; exact hdg
       ·exact HA.out j hj (by omega))
      clear HA; have hF := fun W => rdig_yes d k W hkl hdg; go_wp2_with fail; refine (hF _).mono ?_; rintro r w1 ⟨rfl, rfl⟩; go_wp2; go_round
      case rel => exact ⟨k + 1, by omega, by go_num, HA2.out⟩
      case measure => simp [intOf]; omega
     ·have hR := Lib.hid (numR_not (neg := neg) (e := e) hkl hdg)
      have hF := fun W => rdig_no d k W hkl hdg; clear hdg; go_wp2_with fail; refine (hF _).mono ?_; rintro r w1 ⟨rfl, rfl⟩; go_wp2; go_ret; refine ⟨?_, hb0⟩; rw [hR.out]; try rfl
    ·obtain rfl : k = d.size := by omega
     have hR := Lib.hid (numR_yes (neg := neg) hp H1.out (fun j hj => HA.out j hj hj))
     by_cases hz : (d[0]'hp).toNat = 48
     ·go_wp2
      go_ret; refine ⟨?_, hb0⟩; rw [hR.out]; simp [hz]
     ·go_wp2
      go_ret; refine ⟨?_, hb0⟩; rw [hR.out]; have hz' : ¬ (((d[0]'hp).toNat : Int) = 48) := by omega
      by_cases hy : (d[d.size - 1]'(by omega)).toNat = 48
      ·simp [hz, hz', hy, bne]
      ·have hy' : ¬ (((d[d.size - 1]'(by omega)).toNat : Int) = 48) := by omega
       simp [hz, hz', hy, hy', bne]
def digB (s : ByteArray) (k : Nat) : Bool := decide (digs (s.data.toList.drop k) ≠ 0)
theorem drop_out {s : ByteArray} {k : Nat} (h : ¬ k < s.size) : s.data.toList.drop k = [] := by
 rw [List.drop_eq_nil_iff, <- size_list]; omega
theorem digs_at {s : ByteArray} {k : Nat} (h : k < s.size) : digs (s.data.toList.drop k) = if dg (s[k]'h) then digs (s.data.toList.drop (k + 1)) + 1 else 0 := by
 rw [drop_at h, digs]
theorem dg_iff {c : UInt8} : dg c = true ↔ 48 <= c.toNat /\ c.toNat <= 57 := by simp [dg, dig]
theorem rdig_any (s : ByteArray) (k : Nat) (w : World) (hk : k <= 4611686018427387904) :
  Calls Tryz.prog 78 #[.string s, .int .i64 k] w fun r w' => r = .returned (.bool (digB s k)) /\ w = w' := by
 by_cases h : k < s.size
 ·by_cases hd : 48 <= (s[k]'h).toNat /\ (s[k]'h).toNat <= 57
  ·have : digB s k = true := by
    rw [digB, digs_at h, if_pos (dg_iff.2 hd)]; simp
   rw [this]; exact rdig_yes s k w h hd
  ·have : digB s k = false := by
    rw [digB, digs_at h, if_neg (fun e => hd (dg_iff.1 e))]; rfl
   rw [this]; exact rdig_no s k w h hd
 ·have hR := Lib.hid (show digB s k = false by rw [digB, drop_out h]; rfl)
  go_enter Tryz.func78, Tryz.ntmps78; go_wp2; go_ret; exact ⟨by rw [hR.out]; rfl, rfl⟩
theorem rrun_any (s : ByteArray) (i : Nat) (w : World) (hs : s.size <= 1048576) (hi : i <= s.size) :
  Calls Tryz.prog 79 #[.string s, .int .i64 i] w fun r w' => r = .returned (.int .i64 (i + digs (s.data.toList.drop i) : Nat)) /\ w = w' := by
 obtain ⟨z, hz⟩ : ∃ z, i + digs (s.data.toList.drop i) = z := ⟨_, rfl⟩; rw [hz]; have HZ := Lib.hid hz; clear hz; go_enter Tryz.func79, Tryz.ntmps79; go_wp2_with fail; go_loop [1] (fun x => ∃ k : Nat, k <= s.size /\ x = .int .i64 k /\ k + digs (s.data.toList.drop k) = z) (fun x => s.size - (intOf x).toNat)
 case atStart => exact ⟨i, hi, rfl, HZ.out⟩
 case round =>
  obtain ⟨k, hk, rfl, hr⟩ := hrel; have HR := Lib.hid hr; clear hr; have hF := fun W => rdig_any s k W (by omega)
  cases hd : digB s k with
  | true =>
   have hlt : k < s.size := by
    false_or_by_contra
    rename_i h; rw [digB, drop_out h] at hd; cases hd
   have hN := Lib.hid (show k + 1 + digs (s.data.toList.drop (k + 1)) = z by
    have := HR.out; rw [digs_at hlt] at this; split at this
    ·omega
    ·next e => rw [digB, digs_at hlt, if_neg e] at hd; cases hd)
   rw [hd] at hF; clear hd; go_wp2_with ((with_reducible refine (hF _).mono ?_); rintro _ _ ⟨rfl, rfl⟩)
   go_round
   case rel => exact ⟨k + 1, by omega, by go_num, hN.out⟩
   case measure => simp [intOf]; omega
  | false =>
   have hN := Lib.hid (show k = z by
    have := HR.out; have h0 : digs (s.data.toList.drop k) = 0 := by simpa [digB] using hd
    omega)
   rw [hd] at hF; clear hd; go_wp2_with ((with_reducible refine (hF _).mono ?_); rintro _ _ ⟨rfl, rfl⟩)
   go_ret; exact ⟨by rw [<- hN.out]; rfl, rfl⟩
theorem intS_digs (l : Bs) : intS l = 0 ↔ digs l = 0 := by
 cases l with
 | nil => exact Iff.rfl
 | cons c l =>
  rw [intS]; split
  ·next h => subst h; simp [digs, show dg 48 = true from rfl]
  ·exact Iff.rfl
theorem rScan_any (s : ByteArray) (w : World) (hs : s.size <= 1048576) :
  Calls Tryz.prog 43 #[.string s] w fun e w' => e = .returned (.int .i64 (scanN s.data.toList : Nat)) /\ w = w' := by
 obtain ⟨i0, hi0⟩ : ∃ i0, mnS s.data.toList = i0 := ⟨_, rfl⟩; have hi0l : i0 <= s.size := by rw [<- hi0, size_list]; exact mnS_le _
 have hF0 := fun W => rdig_any s i0 W (by omega)
 have hi01 : i0 = 0 \/ i0 = 1 := by
  rw [<- hi0]
  cases s.data.toList with
  | nil => exact .inl rfl
  | cons c l => rw [mnS]; split <;> simp
 obtain ⟨i1, hi1⟩ : ∃ i1, i0 + intS (s.data.toList.drop i0) = i1 := ⟨_, rfl⟩
 have hi1l : i1 <= s.size := by
  have := intS_le (s.data.toList.drop i0); rw [List.length_drop, <- size_list] at this; omega
 obtain ⟨i2, hi2⟩ : ∃ i2, i1 + fracS (s.data.toList.drop i1) = i2 := ⟨_, rfl⟩
 have hi2l : i2 <= s.size := by
  have := fracS_le (s.data.toList.drop i1); rw [List.length_drop, <- size_list] at this; omega
 have hd0 : digB s i0 = true -> ∃ h : i0 < s.size, dg (s[i0]'h) = true := by
  intro hd
  by_cases h : i0 < s.size
  ·refine ⟨h, ?_⟩
   rw [digB, digs_at h] at hd; split at hd
   ·assumption
   ·cases hd
  ·rw [digB, drop_out h] at hd; cases hd
 have hfin : digB s i0 = true -> scanN s.data.toList = i2 + powS (s.data.toList.drop i2) := by
  intro hd
  have hn : intS (s.data.toList.drop i0) ≠ 0 := by
   rw [Ne, intS_digs]
   simpa [digB] using hd
  rw [scanN, hi0, if_neg hn, hi1, tailS, List.drop_drop, hi2, <- hi2]; omega
 obtain ⟨bM, hbM⟩ : ∃ b, decide (i0 = 1) = b := ⟨_, rfl⟩; have HbM := Lib.hid hbM; clear hbM; have HI0 := Lib.hid hi0; have HI1 := Lib.hid hi1; have HI2 := Lib.hid hi2; have Hd0 := Lib.hid hd0; have Hfin := Lib.hid hfin; clear hi0 hi1 hi2 hd0 hfin; go_enter Tryz.func43, Tryz.ntmps43; go_upto_region 2 with fail
 go_cut [12] (fun x wc => x = .bool bM /\ w = wc)
 case first =>
  by_cases h0 : 0 < s.size
  ·by_cases h1 : s[0]'h0 = 45
   ·have d1 : (((s[0]'h0).toNat : Int) == 45) = true := by rw [h1]; rfl
    have h2 : Hid (i0 = 1) := Lib.hid (by rw [<- HI0.out, <- List.drop_zero (l := s.data.toList), drop_at h0, h1]; rfl)
    clear h1; go_wp2; go_meet
    case rel => exact ⟨by rw [<- HbM.out, decide_eq_true h2.out], rfl⟩
   ·have d1 : (((s[0]'h0).toNat : Int) == 45) = false := u8_nb h1 rfl
    have h2 : Hid (i0 = 0) := Lib.hid (by rw [<- HI0.out, <- List.drop_zero (l := s.data.toList), drop_at h0, mnS, if_neg h1])
    clear h1; go_wp2; go_meet
    case rel => exact ⟨by rw [<- HbM.out, h2.out]; rfl, rfl⟩
  ·have h2 : Hid (i0 = 0) := Lib.hid (by rw [<- HI0.out, <- List.drop_zero (l := s.data.toList), drop_out h0, mnS])
   go_wp2; go_meet
   case rel => exact ⟨by rw [<- HbM.out, h2.out]; rfl, rfl⟩
 case rest =>
  obtain ⟨rfl, rfl⟩ := hcut; go_upto_if 12 with fail
  go_cut [3] (fun x wc => x = .int .i64 i0 /\ w = wc)
  case first =>
   cases bM with
   | false =>
    have H := Lib.hid (show i0 = 0 by have := of_decide_eq_false HbM.out; omega)
    go_wp2; go_meet
    case rel => exact ⟨by rw [H.out]; rfl, rfl⟩
   | true =>
    have H := Lib.hid (of_decide_eq_true HbM.out); go_wp2; go_meet
    case rel => exact ⟨by rw [H.out]; rfl, rfl⟩
  case rest =>
   obtain ⟨rfl, rfl⟩ := hcut
   cases hd : digB s i0 with
   | false =>
    have hz := Lib.hid (show scanN s.data.toList = 0 by
     rw [scanN, HI0.out, if_pos]; rw [intS_digs]
     simpa [digB] using hd)
    rw [hd] at hF0; clear hd; go_wp2_with ((with_reducible refine (hF0 _).mono ?_); rintro _ _ ⟨rfl, rfl⟩)
    go_ret; exact ⟨by rw [hz.out]; rfl, rfl⟩
   | true =>
    have HF := Lib.hid (Hfin.out hd); obtain ⟨hlt, hdg⟩ := Hd0.out hd
    have hint : Hid (i1 = if s[i0]'hlt = 48 then i0 + 1 else i0 + digs (s.data.toList.drop i0)) := Lib.hid (by
     rw [<- HI1.out, drop_at hlt, intS]
     split <;> rfl)
    rw [hd] at hF0; clear hd hdg Hd0 Hfin; go_upto_if 20 with ((with_reducible refine (hF0 _).mono ?_); rintro _ _ ⟨rfl, rfl⟩)
    go_cut [3] (fun x wc => x = .int .i64 i1 /\ w = wc)
    case first =>
     by_cases h48 : s[i0]'hlt = 48
     ·have d1 : (((s[i0]'hlt).toNat : Int) == 48) = true := by rw [h48]; rfl
      have h2 : Hid (i1 = i0 + 1) := Lib.hid (by rw [hint.out, if_pos h48])
      clear h48; go_wp2; go_meet
      case rel => exact ⟨by rw [h2.out]; rfl, rfl⟩
     ·have d1 : (((s[i0]'hlt).toNat : Int) == 48) = false := u8_nb h48 rfl
      have h2 : Hid (i1 = i0 + digs (s.data.toList.drop i0)) := Lib.hid (by rw [hint.out, if_neg h48])
      have hR := fun W => rrun_any s i0 W hs hi0l; rw [<- h2.out] at hR; clear h48; go_wp2_with ((with_reducible refine (hR _).mono ?_); rintro _ _ ⟨rfl, rfl⟩)
      go_meet
      case rel => exact ⟨rfl, rfl⟩
    case rest =>
     obtain ⟨rfl, rfl⟩ := hcut; clear hF0 hint; obtain ⟨bF, hbF⟩ : ∃ b, decide (fracS (s.data.toList.drop i1) ≠ 0) = b := ⟨_, rfl⟩; have HbF := Lib.hid hbF; clear hbF; go_upto_region 9 with fail
     go_cut [41] (fun x wc => x = .bool bF /\ w = wc)
     case first =>
      by_cases h0 : i1 < s.size
      ·by_cases h1 : s[i1]'h0 = 46
       ·have d1 : (((s[i1]'h0).toNat : Int) == 46) = true := by rw [h1]; rfl
        have hD : ∀ W, Calls Tryz.prog 78 #[.string s, .int .i64 ((i1 : Int) + 1)] W fun r w' => r = .returned (.bool (digB s (i1 + 1))) /\ W = w' := fun W => rdig_any s (i1 + 1) W (by omega)
        have h2 : digB s (i1 + 1) = bF := by
         rw [<- HbF.out, drop_at h0, fracS, h1, digB]
         by_cases hz : digs (s.data.toList.drop (i1 + 1)) = 0
         ·rw [if_neg (by simp [hz])]; simp [hz]
         ·rw [if_pos ⟨rfl, hz⟩]; simp [hz]
        rw [h2] at hD; clear h1 h2; go_wp2_with ((with_reducible refine (hD _).mono ?_); rintro _ _ ⟨rfl, rfl⟩)
        go_meet
        case rel => exact ⟨rfl, rfl⟩
       ·have d1 : (((s[i1]'h0).toNat : Int) == 46) = false := u8_nb h1 rfl
        have h2 : Hid (bF = false) := Lib.hid (by rw [<- HbF.out, drop_at h0, fracS, if_neg (fun e => h1 e.1)]; rfl)
        clear h1; go_wp2; go_meet
        case rel => exact ⟨by rw [h2.out], rfl⟩
      ·have h2 : Hid (bF = false) := Lib.hid (by rw [<- HbF.out, drop_out h0]; rfl)
       go_wp2; go_meet
       case rel => exact ⟨by rw [h2.out], rfl⟩
     case rest =>
      obtain ⟨rfl, rfl⟩ := hcut; go_upto_if 41 with fail
      go_cut [3] (fun x wc => x = .int .i64 i2 /\ w = wc)
      case first =>
       cases bF with
       | false =>
        have H := Lib.hid (show i2 = i1 by have h1 := of_decide_eq_false HbF.out; have := HI2.out; omega)
        go_wp2; go_meet
        case rel => exact ⟨by rw [H.out], rfl⟩
       | true =>
        have h1 := of_decide_eq_true HbF.out
        have h0 : i1 < s.size := by
         false_or_by_contra
         rename_i h; rw [drop_out h] at h1; exact h1 rfl
        have hR : ∀ W, Calls Tryz.prog 79 #[.string s, .int .i64 ((i1 : Int) + 1)] W fun r w' => r = .returned (.int .i64 (i1 + 1 + digs (s.data.toList.drop (i1 + 1)) : Nat)) /\ W = w' := fun W => rrun_any s (i1 + 1) W hs (by omega)
        have h2 : i1 + 1 + digs (s.data.toList.drop (i1 + 1)) = i2 := by
         rw [<- HI2.out]; rw [drop_at h0, fracS] at h1 ⊢; split at h1
         ·next h3 => rw [if_pos h3]; omega
         ·exact absurd rfl h1
        rw [h2] at hR; clear h1 h2; go_wp2_with ((with_reducible refine (hR _).mono ?_); rintro _ _ ⟨rfl, rfl⟩)
        go_meet
        case rel => exact ⟨rfl, rfl⟩
      case rest =>
       obtain ⟨rfl, rfl⟩ := hcut; clear HbF HbM HI0 HI1 HI2; obtain ⟨bE, hbE⟩ : ∃ b : Bool, (∃ h : i2 < s.size, s[i2]'h = 101 \/ s[i2]'h = 69) ↔ b = true := ⟨decide (∃ h : i2 < s.size, s[i2]'h = 101 \/ s[i2]'h = 69), by simp⟩
       have HbE := Lib.hid hbE; clear hbE; go_upto_region 11 with fail
       go_cut [61] (fun x wc => x = .bool bE /\ w = wc)
       case first =>
        by_cases h0 : i2 < s.size
        ·by_cases h1 : s[i2]'h0 = 101
         ·have d1 : (((s[i2]'h0).toNat : Int) == 101) = true := by rw [h1]; rfl
          have h2 : Hid (bE = true) := Lib.hid (HbE.out.1 ⟨h0, .inl h1⟩); clear h1; go_wp2; go_meet
          case rel => exact ⟨by rw [h2.out], rfl⟩
         ·have d1 : (((s[i2]'h0).toNat : Int) == 101) = false := u8_nb h1 rfl
          by_cases h3 : s[i2]'h0 = 69
          ·have d2 : (((s[i2]'h0).toNat : Int) == 69) = true := by rw [h3]; rfl
           have h2 : Hid (bE = true) := Lib.hid (HbE.out.1 ⟨h0, .inr h3⟩); clear h1 h3; go_wp2; go_meet
           case rel => exact ⟨by rw [h2.out], rfl⟩
          ·have d2 : (((s[i2]'h0).toNat : Int) == 69) = false := u8_nb h3 rfl
           have h2 : Hid (bE = false) := Lib.hid (by
            rw [Bool.eq_false_iff]; intro e; obtain ⟨_, h | h⟩ := HbE.out.2 e
            ·exact h1 h
            ·exact h3 h)
           clear h1 h3; go_wp2; go_meet
           case rel => exact ⟨by rw [h2.out], rfl⟩
        ·have h2 : Hid (bE = false) := Lib.hid (by
          rw [Bool.eq_false_iff]; intro e; obtain ⟨h, _⟩ := HbE.out.2 e
          exact h0 h)
         go_wp2; go_meet
         case rel => exact ⟨by rw [h2.out], rfl⟩
       case rest =>
        obtain ⟨rfl, rfl⟩ := hcut
        cases bE with
        | false =>
         have hz := Lib.hid (show scanN s.data.toList = i2 by
          rw [HF.out]
          by_cases h0 : i2 < s.size
          ·have hn : ¬ (s[i2]'h0 = 101 \/ s[i2]'h0 = 69) := fun e => by have := HbE.out.1 ⟨h0, e⟩; cases this
           rw [drop_at h0, powS, if_neg (fun e => hn e.1)]; rfl
          ·rw [drop_out h0]; rfl)
         go_wp2; go_ret; exact ⟨by rw [hz.out]; rfl, rfl⟩
        | true =>
         obtain ⟨h0, hm⟩ := HbE.out.2 rfl; obtain ⟨k, hk⟩ : ∃ k, i2 + 1 + sgS (s.data.toList.drop (i2 + 1)) = k := ⟨_, rfl⟩
         have hkl : sgS (s.data.toList.drop (i2 + 1)) <= 1 := by
          cases s.data.toList.drop (i2 + 1) with
          | nil => exact Nat.zero_le _
          | cons c t => rw [sgS]; split <;> omega
         have hkb : i2 <= k /\ k <= i2 + 2 := by omega
         have hfin := Lib.hid (show scanN s.data.toList = if digs (s.data.toList.drop k) = 0 then i2 else k + digs (s.data.toList.drop k) by
          rw [HF.out, drop_at h0, powS]; simp only [hm, true_and]; rw [List.drop_drop, hk]; split
          ·next h => (try rw [if_neg h]); omega
          ·next h => first | rfl | (rw [if_pos (by simpa using h)]; rfl))
         have hks : k <= s.size := by
          by_cases h1 : i2 + 1 < s.size
          ·omega
          ·rw [drop_out h1] at hk
           simp only [sgS] at hk; omega
         have HK := Lib.hid hk; clear hm hk hkl HbE HF; obtain ⟨bS, hbS⟩ : ∃ b, decide (k = i2 + 2) = b := ⟨_, rfl⟩; have HbS := Lib.hid hbS; clear hbS; go_upto_region 13 with fail
         go_cut [79] (fun x wc => x = .bool bS /\ w = wc)
         case first =>
          by_cases h1 : i2 + 1 < s.size
          ·have h1I : (i2 : Int) + 1 < (s.size : Int) := by omega
           have hbd : 0 <= (i2 : Int) + 1 /\ (i2 : Int) + 1 < (s.size : Int) := by omega
           by_cases h3 : s[i2 + 1]'h1 = 43
           ·have d1 : (((s[i2 + 1]'h1).toNat : Int) == 43) = true := by rw [h3]; rfl
            have h2 : Hid (bS = true) := Lib.hid (by rw [<- HbS.out, <- HK.out, drop_at h1, sgS, if_pos (.inl h3)]; simp)
            clear h3; go_wp2; go_meet
            case rel => exact ⟨by rw [h2.out], rfl⟩
           ·have d1 : (((s[i2 + 1]'h1).toNat : Int) == 43) = false := u8_nb h3 rfl
            by_cases h4 : s[i2 + 1]'h1 = 45
            ·have d2 : (((s[i2 + 1]'h1).toNat : Int) == 45) = true := by rw [h4]; rfl
             have h2 : Hid (bS = true) := Lib.hid (by rw [<- HbS.out, <- HK.out, drop_at h1, sgS, if_pos (.inr h4)]; simp)
             clear h3 h4; go_wp2; go_meet
             case rel => exact ⟨by rw [h2.out], rfl⟩
            ·have d2 : (((s[i2 + 1]'h1).toNat : Int) == 45) = false := u8_nb h4 rfl
             have h2 : Hid (bS = false) := Lib.hid (by rw [<- HbS.out, <- HK.out, drop_at h1, sgS, if_neg (by simp [h3, h4])]; simp)
             clear h3 h4; go_wp2; go_meet
             case rel => exact ⟨by rw [h2.out], rfl⟩
          ·have h2 : Hid (bS = false) := Lib.hid (by rw [<- HbS.out, <- HK.out, drop_out h1]; simp [sgS])
           go_wp2; go_meet
           case rel => exact ⟨by rw [h2.out], rfl⟩
         case rest =>
          obtain ⟨rfl, rfl⟩ := hcut; go_upto_if 79 with fail
          go_cut [4] (fun x wc => x = .int .i64 k /\ w = wc)
          case first =>
           cases bS with
           | false =>
            have H := Lib.hid (show (i2 : Int) + 1 = (k : Int) by
             have h1 := of_decide_eq_false HbS.out; have := HK.out
             omega)
            go_wp2; go_meet
            case rel => exact ⟨by first | rw [H.out] | (congr 1; exact H.out), rfl⟩
           | true =>
            have H := Lib.hid (show (i2 : Int) + 1 + 1 = (k : Int) by
             have h1 := of_decide_eq_true HbS.out
             omega)
            go_wp2; go_meet
            case rel => exact ⟨by first | rw [H.out] | (congr 1; have := H.out; omega), rfl⟩
          case rest =>
           obtain ⟨rfl, rfl⟩ := hcut; have hD := fun W => rdig_any s k W (by omega)
           have hR := fun W => rrun_any s k W hs hks
           cases hd : digB s k with
           | false =>
            have hz : Hid (scanN s.data.toList = i2) := Lib.hid (by rw [hfin.out, if_pos (by simpa [digB] using hd)])
            rw [hd] at hD; clear hd; go_wp2_with ((with_reducible refine (hD _).mono ?_); rintro _ _ ⟨rfl, rfl⟩)
            go_ret; exact ⟨by rw [hz.out]; rfl, rfl⟩
           | true =>
            have hz : Hid (scanN s.data.toList = k + digs (s.data.toList.drop k)) := Lib.hid (by rw [hfin.out, if_neg (by simpa [digB] using hd)])
            rw [hd] at hD; clear hd; go_wp2_with (first | ((with_reducible refine (hD _).mono ?_); rintro _ _ ⟨rfl, rfl⟩) | ((with_reducible refine (hR _).mono ?_); rintro _ _ ⟨rfl, rfl⟩))
            go_ret; exact ⟨by rw [hz.out]; rfl, rfl⟩
end Go.Proofs.YthbhknfhmkhfgaaGreatDoor
