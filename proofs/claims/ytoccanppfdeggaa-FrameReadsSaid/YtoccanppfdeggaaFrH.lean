/- The walks of layer 5's example and of FrameSplits: it returns true. -/
import Derived.Test.YtoccanppfdeggaaFrG
import Derived.Test.YtoccanppfdeggaaFrF
namespace Go.Proofs.Ytoccanppfdeggaa
open Go.RowKit Go.Tab

theorem puts_ex : puts [[97], []] = [1, 97, 0] := by decide +kernel

set_option maxHeartbeats 800000 in
set_option maxRecDepth 100000 in
theorem fwakes_any (w : World) : Calls Try.prog 23 #[] w fun e w' => e = .returned (.bool true) ∧ Below w.heap.size w w' := by
  have p := Lib.hid puts_ex
  go_enter Try.func23, Try.ntmps23
  go_wp2_with fail
  have r1 : BytesAt (w.alloc (.cells #[.int .u8 97] 5)) (.slice (some ⟨w.heap.size, 0, none⟩) 1 1) [97] := bytes_new w [97] 5 (0, 0) (by decide)
  have r2 := (OwnOf.lit (f := slV) (E := 22) (base := 0) (w := w.alloc (.cells #[.int .u8 97] 5)) [(some ⟨w.heap.size, 0, none⟩, 1, 1), (none, 0, 0)] (Nat.zero_le _) (show 2 ≤ maxLen by decide)).row
  rw [World.size_alloc] at r2
  have r3 : SlsAt ((w.alloc (.cells #[.int .u8 97] 5)).alloc (.cells #[.slice (some ⟨w.heap.size, 0, none⟩) 1 1, .slice none 0 0] 22)) (.slice (some ⟨w.heap.size + 1, 0, none⟩) 2 2) [(some ⟨w.heap.size, 0, none⟩, 1, 1), (none, 0, 0)] [[97], []] := by
    refine ⟨r2, rfl, fun j h1 h2 => ?_⟩
    match j with
    | 0 => exact r1.alloc _
    | 1 => exact RowOf.nil
  have hb0 : Below w.heap.size w ((w.alloc (.cells #[.int .u8 97] 5)).alloc (.cells #[.slice (some ⟨w.heap.size, 0, none⟩) 1 1, .slice none 0 0] 22)) := ((Below.refl _ _).alloc (Nat.le_refl _) _).alloc (by simp) _
  clear r1 r2
  refine (FPut_any _ _ _ _ r3 (by rw [p.out]; decide)).mono ?_
  rintro e w2 ⟨v2, rfl, ho2, hb2'⟩
  have hb2 := hb0.trans (hb2'.mono hb0.size)
  have hz2 := hb2.size
  rw [p.out] at ho2
  clear r3 hb0 hb2'
  go_wp2_with fail
  refine (Same_yes _ _ [1, 97, 0] [1, 97, 0] _ (ho2.row.alloc _) (bytes_new w2 [1, 97, 0] 5 (0, 0) (by decide)) rfl).mono ?_
  rintro e w3 ⟨rfl, hb3'⟩
  have hb3 : Below w.heap.size w w3 := (hb2.alloc hz2 _).trans (hb3'.mono (by simp; omega))
  go_wp2
  go_ret
  exact ⟨rfl, hb3⟩

set_option maxHeartbeats 2000000 in
set_option maxRecDepth 100000 in
theorem FrameSplits_walk (a0 : Value) (l0 : List UInt8) (w : World) (w0 : BytesAt w a0 l0) :
    Calls Try.prog 8 #[a0] w fun e w' => e = .returned (.bool true) ∧ Below w.heap.size w w' := by
  have wk := w0
  obtain ⟨a, cap, rfl, hl, hm, hn⟩ := w0.len
  unfold maxLen at hm
  clear w0
  by_cases h : 500 < l0.length
  · go_enter Try.func8, Try.ntmps8
    go_wp2_with fail
    refine (fwakes_any w).mono ?_
    rintro e w1 ⟨rfl, hb1⟩
    go_wp2
    go_ret
    exact ⟨rfl, hb1⟩
  · obtain ⟨fs, e, hs⟩ : ∃ fs e, split l0 = (fs, e) := ⟨_, _, rfl⟩
    have HS := Lib.hid hs
    have hfl := split_len l0
    rw [hs] at hfl
    simp only at hfl
    go_enter Try.func8, Try.ntmps8
    go_wp2_with fail
    refine (fwakes_any w).mono ?_
    rintro e1 w1 ⟨rfl, hb1⟩
    have hz1 := hb1.size
    have wk1 := wk.below hb1 (Nat.le_refl _)
    have hS := Split_any _ l0 w1 wk1 (by omega)
    rw [hs] at hS
    go_wp2_with fail
    refine hS.mono ?_
    rintro e1 w2 ⟨vo, vs, rfl, ho, hfs, hb2'⟩
    clear hS
    have hb2 := hb1.trans (hb2'.mono hz1)
    have hz2 := hb2.size
    have wk2 := wk.below hb2 (Nat.le_refl _)
    have hT := rSplit_any _ l0 w2 wk2 (by omega)
    rw [hs] at hT
    go_wp2_with fail
    refine hT.mono ?_
    rintro e1 w3 ⟨vo2, vs2, rfl, ho2, hof, hb3'⟩
    clear hT
    have hb3 := hb2.trans (hb3'.mono hz2)
    have hz3 := hb3.size
    have ho3 := ho.below hb3' (Nat.le_refl _)
    have hfs3 : Rows (BytesAt w3) vs fs := hfs.imp fun s l _ h => (h.row).below hb3' (Nat.le_refl _)
    have hof3 : Rows (BytesAt w3) vs2 fs := hof.imp fun s l _ h => h w3 (wk.below hb3 (Nat.le_refl _))
    have e12 : vs.length = fs.length := hfs3.1
    have e22 : vs2.length = vs.length := hof3.1.trans e12.symm
    have hvl : vs.length ≤ 500 := by omega
    clear hs hfs hof ho wk1 wk2 hb2' hb3' hb1 hb2 hfl
    obtain ⟨x1, c1, rfl, q1, q2, q3⟩ := ho3.row.len
    obtain ⟨x2, c2, rfl, q4, q5, q6⟩ := ho2.row.len
    unfold maxLen at q2 q5
    rw [e22] at q4
    have E12 := Lib.hid e12
    have E22 := Lib.hid e22
    have hR1 := ho3.row
    have hR2 := ho2.row
    rw [e22] at hR2 ⊢
    clear e12 e22
    go_wp2_with fail
    go_loopw [35] (fun i wr => ∃ k : Nat, k ≤ vs.length ∧ i = .int .i64 k ∧ Below w3.heap.size w3 wr) (fun i _ => vs.length - (intOf i).toNat)
    case atStart => exact ⟨0, Nat.zero_le _, rfl, Below.refl _ _⟩
    case round =>
      obtain ⟨k, hk, rfl, hb4⟩ := hrel
      have hz4 := hb4.size
      by_cases hkv : k < vs.length
      · have hk2 : k < vs2.length := by rw [E22.out]; exact hkv
        have hkf : k < fs.length := by rw [← E12.out]; exact hkv
        obtain ⟨b1, o1, rfl, g1, c1⟩ := (hR1.below hb4 (Nat.le_refl _)).at hkv
        obtain ⟨b2, o2, rfl, g2, c2⟩ := (hR2.below hb4 (Nat.le_refl _)).at hk2
        have d1 := c1 k hkv
        have d2 := c2 k hk2
        have r1 := (hfs3.2 k hkv hkf).below hb4 (Nat.le_refl _)
        have r2 := (hof3.2 k hk2 hkf).below hb4 (Nat.le_refl _)
        generalize fs[k] = bk at r1 r2
        generalize vs[k] = s1 at d1 r1
        generalize vs2[k] = s2 at d2 r2
        obtain ⟨sa1, sn1, sc1⟩ := s1
        obtain ⟨sa2, sn2, sc2⟩ := s2
        unfold slV at d1 d2 r1 r2
        simp only at d1 d2 r1 r2
        have D1 : ∀ x : Under wr, x.w.cell? ⟨b1, o1 + k, none⟩ = some (.slice sa1 sn1 sc1) := fun x => (x.below.cell (by exact g1)).trans d1
        have D2 : ∀ x : Under wr, x.w.cell? ⟨b2, o2 + k, none⟩ = some (.slice sa2 sn2 sc2) := fun x => (x.below.cell (by exact g2)).trans d2
        clear c1 c2 d1 d2 hk2 hkf
        go_wp2_with fail
        refine wp_region_under wr (by kernel_rfl) (by kernel_rfl) (Below.refl _ _) ?_
        repeat (go_big_quiet_step ((go_at_call 15; exact Under.call _ (Same_yes _ _ _ _ _ (r1.under_of _) (r2.under_of _) rfl))))
        refine wpQuiet_nil ?_
        rintro _ ⟨x, rfl⟩
        have hb5 := hb4.trans (x.below.mono hz4)
        clear D1 D2
        go_wp2
        go_roundw
        case rel => exact ⟨k + 1, hkv, by go_num, hb5⟩
        case measure => simp [intOf]; omega
      · obtain rfl : k = vs.length := by omega
        have hb5 := hb3.trans (hb4.mono hz3)
        by_cases he : e = 0
        · subst he
          have hp := puts_split l0.length l0 (Nat.le_refl _) (by rw [HS.out])
          rw [HS.out] at hp
          simp only at hp
          have HP := Lib.hid hp
          have hsl : SlsAt wr (.slice x1 vs.length c1) vs fs := ⟨hR1.below hb4 (Nat.le_refl _), hfs3.imp fun s l _ h => h.below hb4 (Nat.le_refl _)⟩
          clear hp
          go_wp2_with fail
          refine (FPut_any _ vs fs wr hsl (by rw [HP.out]; omega)).mono ?_
          rintro e6 w6 ⟨v6, rfl, ho6, hb6'⟩
          have hb6 := hb5.trans (hb6'.mono hb5.size)
          go_wp2_with fail
          refine (Same_yes _ _ _ _ w6 ho6.row (wk.below hb6 (Nat.le_refl _)) HP.out).mono ?_
          rintro e7 w7 ⟨rfl, hb7'⟩
          have hb7 := hb6.trans (hb7'.mono hb6.size)
          go_wp2
          go_ret
          exact ⟨rfl, hb7⟩
        · have hbx : ((e : Int) != 0) = true := by simp; omega
          clear he
          go_wp2
          go_ret
          exact ⟨rfl, hb5⟩
end Go.Proofs.Ytoccanppfdeggaa
