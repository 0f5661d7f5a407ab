/- The walks that hold two values against each other: the reference's (layer 8). -/
import Derived.Test.YtpcfhiipkbpmkaaDoorTreK
namespace Go.Proofs.YtpcfhiipkbpmkaaDoor
open Go.RowKit Go.Tab

theorem SameP.fix {p : Prop} {b : Bool} (hb : b = true ↔ p) {P : Program} {f : FuncId} {args : Array Value} {w : World} (h : Calls P f args w (SameP p w)) :
    Calls P f args w fun e w' => e = .returned (.bool b) ∧ Below w.heap.size w w' :=
  h.mono fun e w' ⟨⟨c, he, hc⟩, hw⟩ => ⟨by rw [he, show c = b from by rw [Bool.eq_iff_iff, hc, hb]], hw⟩
theorem some_bool (p : Prop) : ∃ b : Bool, b = true ↔ p := by
  classical
  exact ⟨decide p, decide_eq_true_iff⟩
theorem ValAt.under {w : World} {t : Tree} {cs : List Value} (h : ValAt w t cs) (x : Under w) : ValAt x.w t cs := ValAt.below x.below t cs h

set_option maxHeartbeats 4000000 in
set_option maxRecDepth 100000 in
theorem rSame_step (n : Nat) (IH : ∀ (s t : Tree), s.bulk ≤ n → ∀ (w : World) (cs ds : List Value), ValAt w s cs → ValAt w t ds → Calls Tryd.prog 18 #[valV cs, valV ds] w (SameP (s = t) w))
    (k1 k2 : Int) (is1 is2 neg1 neg2 : Bool) (d1 d2 : ByteArray) (e1 e2 : Int) (s1 s2 : ByteArray) (ks1 ks2 : List ByteArray) (kids1 kids2 : List Tree)
    (hn : (Tree.mk k1 is1 neg1 d1 e1 s1 ks1 kids1).bulk ≤ n + 1) (p : Prop) (hp : p ↔ Tree.mk k1 is1 neg1 d1 e1 s1 ks1 kids1 = Tree.mk k2 is2 neg2 d2 e2 s2 ks2 kids2)
    (w : World) (cs ds : List Value) (hv : ValAt w (.mk k1 is1 neg1 d1 e1 s1 ks1 kids1) cs) (hv2 : ValAt w (.mk k2 is2 neg2 d2 e2 s2 ks2 kids2) ds) :
    Calls Tryd.prog 18 #[valV cs, valV ds] w (SameP p w) := by
  have hkb : bulkAll kids1 ≤ n := by simp only [Tree.bulk] at hn; omega
  simp only [ValAt] at hv hv2
  obtain ⟨kv, a, cap, rfl, hk, hl, hm, hnil, hx⟩ := hv
  obtain ⟨ka, kc, rfl, hkl0, hkm0, -⟩ := hk.len
  obtain ⟨kv2, a2, cap2, rfl, hk2, hl2, hm2, hnil2, hx2⟩ := hv2
  obtain ⟨ka2, kc2, rfl, hkl2, hkm2, -⟩ := hk2.len
  have HP := Lib.hid hp
  simp only [valV]
  clear hp hn
  have hb0 : Below w.heap.size w ((w.alloc (.cells #[.int .i64 k1, .bool is1, .bool neg1, .string d1, .int .i64 e1, .string s1, .slice ka ks1.length kc, .slice a kids1.length cap] 27)).alloc
    (.cells #[.int .i64 k2, .bool is2, .bool neg2, .string d2, .int .i64 e2, .string s2, .slice ka2 ks2.length kc2, .slice a2 kids2.length cap2] 27)) := ((Below.refl _ w).alloc (Nat.le_refl _) _).alloc (by simp) _
  have hEq := fun W h1 h2 => Texts_any (.slice ka ks1.length kc) (.slice ka2 ks2.length kc2) ks1 ks2 W h1 h2
  have HEQ := Lib.hid hEq
  have HX := Lib.hid hx
  have HX2 := Lib.hid hx2
  have HIH := Lib.hid IH
  clear hEq IH hx hx2
  unfold maxLen at hm hkm0 hm2 hkm2
  go_enter Tryd.func18, Tryd.ntmps18
  go_wp2_with fail
  · refine (HEQ.out _ ((hk.alloc _).alloc _) ((hk2.alloc _).alloc _)).mono ?_
    rintro e w2 ⟨rfl, hb2⟩
    have HB := Lib.hid (hb0s ((Below.refl _ w).alloc (Nat.le_refl _) _) ((Below.refl _ _).alloc (by simp) _) hb2)
    obtain ⟨hc0, hc1, hz0, hz1⟩ := two_new hb2
    obtain ⟨b, hb⟩ : ∃ b, b = decide (ks1 = ks2) := ⟨_, rfl⟩
    rw [← hb]
    have HKS : Hid (b = decide (ks1 = ks2)) := Lib.hid hb
    clear hb hb2
    cases b
    · skip
      have hc0c0 := hc0.cell 0 _ rfl
      have hc0f0 := hc0.frozen 0
      have hc0c1 := hc0.cell 1 _ rfl
      have hc0f1 := hc0.frozen 1
      have hc0c2 := hc0.cell 2 _ rfl
      have hc0f2 := hc0.frozen 2
      have hc0c3 := hc0.cell 3 _ rfl
      have hc0f3 := hc0.frozen 3
      have hc0c4 := hc0.cell 4 _ rfl
      have hc0f4 := hc0.frozen 4
      have hc0c5 := hc0.cell 5 _ rfl
      have hc0f5 := hc0.frozen 5
      have hc0c6 := hc0.cell 6 _ rfl
      have hc0f6 := hc0.frozen 6
      have hc0c7 := hc0.cell 7 _ rfl
      have hc0f7 := hc0.frozen 7
      have hc1c0 := hc1.cell 0 _ rfl
      have hc1f0 := hc1.frozen 0
      have hc1c1 := hc1.cell 1 _ rfl
      have hc1f1 := hc1.frozen 1
      have hc1c2 := hc1.cell 2 _ rfl
      have hc1f2 := hc1.frozen 2
      have hc1c3 := hc1.cell 3 _ rfl
      have hc1f3 := hc1.frozen 3
      have hc1c4 := hc1.cell 4 _ rfl
      have hc1f4 := hc1.frozen 4
      have hc1c5 := hc1.cell 5 _ rfl
      have hc1f5 := hc1.frozen 5
      have hc1c6 := hc1.cell 6 _ rfl
      have hc1f6 := hc1.frozen 6
      have hc1c7 := hc1.cell 7 _ rfl
      have hc1f7 := hc1.frozen 7
      go_wp2_with fail
      go_ret
      refine ⟨⟨false, rfl, no_iff (fun h => ?_)⟩, HB.out⟩
      have h2 := HP.out.1 h
      have h3 := HKS.out
      simp only [Tree.mk.injEq] at h2
      obtain ⟨rfl, rfl, rfl, rfl, rfl, rfl, rfl, rfl⟩ := h2
      simp at h3
    · have hks := of_decide_eq_true HKS.out.symm
      clear HKS
      have HKS := Lib.hid hks
      clear hks
      have hd1 := Lib.hid (list_inj (by assumption : d1.toList = d2.toList))
      have hd2 := Lib.hid (list_inj (by assumption : s1.toList = s2.toList))
      by_cases hlen : kids1.length = kids2.length
      · have hq : ((kids1.length : Int) != (kids2.length : Int)) = false := by simp [hlen]
        have HL := Lib.hid hlen
        clear hlen
        have HC0 := Lib.hid hc0
        have HC1 := Lib.hid hc1
        have hc0c0 := hc0.cell 0 _ rfl
        have hc0f0 := hc0.frozen 0
        have hc0c1 := hc0.cell 1 _ rfl
        have hc0f1 := hc0.frozen 1
        have hc0c2 := hc0.cell 2 _ rfl
        have hc0f2 := hc0.frozen 2
        have hc0c3 := hc0.cell 3 _ rfl
        have hc0f3 := hc0.frozen 3
        have hc0c4 := hc0.cell 4 _ rfl
        have hc0f4 := hc0.frozen 4
        have hc0c5 := hc0.cell 5 _ rfl
        have hc0f5 := hc0.frozen 5
        have hc0c6 := hc0.cell 6 _ rfl
        have hc0f6 := hc0.frozen 6
        have hc0c7 := hc0.cell 7 _ rfl
        have hc0f7 := hc0.frozen 7
        have hc1c0 := hc1.cell 0 _ rfl
        have hc1f0 := hc1.frozen 0
        have hc1c1 := hc1.cell 1 _ rfl
        have hc1f1 := hc1.frozen 1
        have hc1c2 := hc1.cell 2 _ rfl
        have hc1f2 := hc1.frozen 2
        have hc1c3 := hc1.cell 3 _ rfl
        have hc1f3 := hc1.frozen 3
        have hc1c4 := hc1.cell 4 _ rfl
        have hc1f4 := hc1.frozen 4
        have hc1c5 := hc1.cell 5 _ rfl
        have hc1f5 := hc1.frozen 5
        have hc1c6 := hc1.cell 6 _ rfl
        have hc1f6 := hc1.frozen 6
        have hc1c7 := hc1.cell 7 _ rfl
        have hc1f7 := hc1.frozen 7
        go_wp2_with fail
        go_loopw [5] (fun i wr => ∃ k : Nat, k ≤ kids1.length ∧ i = .int .i64 (k : Int) ∧ (∀ j (h1 : j < kids1.length) (h2 : j < kids2.length), j < k → kids1[j] = kids2[j]) ∧ Below w2.heap.size w2 wr) (fun i _ => kids1.length - (intOf i).toNat)
        case atStart => exact ⟨0, Nat.zero_le _, rfl, fun j _ _ h => by omega, Below.refl _ _⟩
        case round =>
          obtain ⟨k, hk, rfl, hall, hbl⟩ := hrel
          clear hc0 hc1 hc0c0 hc0c1 hc0c2 hc0c3 hc0c4 hc0c5 hc0c6 hc0c7 hc0f0 hc0f1 hc0f2 hc0f3 hc0f4 hc0f5 hc0f6 hc0f7 hc1c0 hc1c1 hc1c2 hc1c3 hc1c4 hc1c5 hc1c6 hc1c7 hc1f0 hc1f1 hc1f2 hc1f3 hc1f4 hc1f5 hc1f6 hc1f7
          have hc0 := HC0.out.below hbl hz0
          have hc1 := HC1.out.below hbl hz1
          have hy0 := hc0.lt
          have hy1 := hc1.lt
          have HBL := Lib.hid hbl
          have HA := Lib.hid hall
          clear hall
          by_cases hkl : k < kids1.length
          · have hkl2 : k < kids2.length := by have := HL.out; omega
            have hne : kids1 ≠ [] := by intro h0; rw [h0] at hkl; simp at hkl
            have hne2 : kids2 ≠ [] := by intro h0; rw [h0] at hkl2; simp at hkl2
            cases a with
            | none => have := hnil rfl; omega
            | some x =>
            cases a2 with
            | none => have := hnil2 rfl; omega
            | some x2 =>
            obtain ⟨bb, off, sp⟩ := x
            obtain ⟨bb2, off2, sp2⟩ := x2
            obtain ⟨rfl, hlt, hkids⟩ := KidsV.below (KidsV.below HX.out HB.out) hbl _ rfl hne
            obtain ⟨rfl, hlt2, hkids2⟩ := KidsV.below (KidsV.below HX2.out HB.out) hbl _ rfl hne2
            simp only at hlt hkids hlt2 hkids2
            obtain ⟨kc0, hkc, hkv⟩ := KidsAt.get hkids k hkl
            obtain ⟨kkind, kis, kneg, kdig, kexp, kstr, kka, kkn, kkc, ksa, ksn, ksc, rfl, m0, m1, m2, m3, m4, m5, m6, m7⟩ := kid_at hkv hkc
            obtain ⟨jc0, hjc, hjv⟩ := KidsAt.get hkids2 k hkl2
            obtain ⟨jkind, jis, jneg, jdig, jexp, jstr, jka, jkn, jkc, jsa, jsn, jsc, rfl, o0, o1, o2, o3, o4, o5, o6, o7⟩ := kid_at hjv hjc
            have hIH := HIH.out kids1[k] kids2[k] (by have := bulk_kid hkl; omega)
            have HD : Hid (kids1[k] = kids2[k] → ∀ j (h1 : j < kids1.length) (h2 : j < kids2.length), j < k + 1 → kids1[j] = kids2[j]) := Lib.hid (fun heq j h1 h2 h => by
                by_cases hjk : j = k
                · subst hjk; exact heq
                · exact HA.out j h1 h2 (by omega))
            have HN : Hid (¬ kids1[k] = kids2[k] → kids1 ≠ kids2) := Lib.hid (fun h => rows_ne hkl hkl2 h)
            clear HA hkc hjc
            generalize kids1[k] = kid at *
            generalize kids2[k] = jid at *
            obtain ⟨b, hb⟩ := some_bool (kid = jid)
            have hcall := fun (x : Under wr) => Under.call x (SameP.fix hb (hIH x.w _ _ (hkv.under x) (hjv.under x)))
            clear hIH
            have HBB := Lib.hid hb
            clear hb
            have p0 := fun x : Under wr => (x.below.cell (p := ⟨w.heap.size, 7, none⟩) hy0).trans (hc0.cell 7 _ rfl)
            have p1 := fun x : Under wr => (x.below.cell (p := ⟨w.heap.size + 1, 7, none⟩) hy1).trans (hc1.cell 7 _ rfl)
            have M0 := fun x : Under wr => (x.below.cell (by exact hlt)).trans m0
            have M1 := fun x : Under wr => (x.below.cell (by exact hlt)).trans m1
            have M2 := fun x : Under wr => (x.below.cell (by exact hlt)).trans m2
            have M3 := fun x : Under wr => (x.below.cell (by exact hlt)).trans m3
            have M4 := fun x : Under wr => (x.below.cell (by exact hlt)).trans m4
            have M5 := fun x : Under wr => (x.below.cell (by exact hlt)).trans m5
            have M6 := fun x : Under wr => (x.below.cell (by exact hlt)).trans m6
            have M7 := fun x : Under wr => (x.below.cell (by exact hlt)).trans m7
            have O0 := fun x : Under wr => (x.below.cell (by exact hlt2)).trans o0
            have O1 := fun x : Under wr => (x.below.cell (by exact hlt2)).trans o1
            have O2 := fun x : Under wr => (x.below.cell (by exact hlt2)).trans o2
            have O3 := fun x : Under wr => (x.below.cell (by exact hlt2)).trans o3
            have O4 := fun x : Under wr => (x.below.cell (by exact hlt2)).trans o4
            have O5 := fun x : Under wr => (x.below.cell (by exact hlt2)).trans o5
            have O6 := fun x : Under wr => (x.below.cell (by exact hlt2)).trans o6
            have O7 := fun x : Under wr => (x.below.cell (by exact hlt2)).trans o7
            clear m0 m1 m2 m3 m4 m5 m6 m7 o0 o1 o2 o3 o4 o5 o6 o7
            have hc0c0 := hc0.cell 0 _ rfl
            have hc0f0 := hc0.frozen 0
            have hc0c1 := hc0.cell 1 _ rfl
            have hc0f1 := hc0.frozen 1
            have hc0c2 := hc0.cell 2 _ rfl
            have hc0f2 := hc0.frozen 2
            have hc0c3 := hc0.cell 3 _ rfl
            have hc0f3 := hc0.frozen 3
            have hc0c4 := hc0.cell 4 _ rfl
            have hc0f4 := hc0.frozen 4
            have hc0c5 := hc0.cell 5 _ rfl
            have hc0f5 := hc0.frozen 5
            have hc0c6 := hc0.cell 6 _ rfl
            have hc0f6 := hc0.frozen 6
            have hc0c7 := hc0.cell 7 _ rfl
            have hc0f7 := hc0.frozen 7
            have hc1c0 := hc1.cell 0 _ rfl
            have hc1f0 := hc1.frozen 0
            have hc1c1 := hc1.cell 1 _ rfl
            have hc1f1 := hc1.frozen 1
            have hc1c2 := hc1.cell 2 _ rfl
            have hc1f2 := hc1.frozen 2
            have hc1c3 := hc1.cell 3 _ rfl
            have hc1f3 := hc1.frozen 3
            have hc1c4 := hc1.cell 4 _ rfl
            have hc1f4 := hc1.frozen 4
            have hc1c5 := hc1.cell 5 _ rfl
            have hc1f5 := hc1.frozen 5
            have hc1c6 := hc1.cell 6 _ rfl
            have hc1f6 := hc1.frozen 6
            have hc1c7 := hc1.cell 7 _ rfl
            have hc1f7 := hc1.frozen 7
            simp only [valV] at hcall
            go_wp2_with fail
            refine wp_region_under wr (by kernel_rfl) (by kernel_rfl) (Below.refl _ _) ?_
            repeat (go_big_quiet_step ((go_at_call 18; exact hcall _)))
            refine wpQuiet_nil ?_
            rintro _ ⟨x, rfl⟩
            have hb3 := HBL.out.trans (x.below.mono HBL.out.size)
            have HB3 := Lib.hid hb3
            clear M0 M1 M2 M3 M4 M5 M6 M7 O0 O1 O2 O3 O4 O5 O6 O7 p0 p1 hcall
            cases b
            · have HY := Lib.hid (HN.out (fun h => by have := HBB.out.2 h; cases this))
              clear HBB HN HD
              go_wp2_with fail
              go_ret
              refine ⟨⟨false, rfl, no_iff (fun h => ?_)⟩, HB.out.trans (HB3.out.mono HB.out.size)⟩
              have h2 := HP.out.1 h
              simp only [Tree.mk.injEq] at h2
              exact HY.out h2.2.2.2.2.2.2.2
            · have HY := Lib.hid (HD.out (HBB.out.1 rfl))
              clear HBB HN HD
              go_wp2_with fail
              go_roundw
              case rel => exact ⟨k + 1, by omega, by go_num, HY.out, HB3.out⟩
              case measure => simp [intOf]; omega
          · obtain rfl : k = kids1.length := by omega
            have hR := Lib.hid (rows_eq HL.out (fun j h1 h2 => HA.out j h1 h2 h1))
            clear HA
            have hc0c0 := hc0.cell 0 _ rfl
            have hc0f0 := hc0.frozen 0
            have hc0c1 := hc0.cell 1 _ rfl
            have hc0f1 := hc0.frozen 1
            have hc0c2 := hc0.cell 2 _ rfl
            have hc0f2 := hc0.frozen 2
            have hc0c3 := hc0.cell 3 _ rfl
            have hc0f3 := hc0.frozen 3
            have hc0c4 := hc0.cell 4 _ rfl
            have hc0f4 := hc0.frozen 4
            have hc0c5 := hc0.cell 5 _ rfl
            have hc0f5 := hc0.frozen 5
            have hc0c6 := hc0.cell 6 _ rfl
            have hc0f6 := hc0.frozen 6
            have hc0c7 := hc0.cell 7 _ rfl
            have hc0f7 := hc0.frozen 7
            have hc1c0 := hc1.cell 0 _ rfl
            have hc1f0 := hc1.frozen 0
            have hc1c1 := hc1.cell 1 _ rfl
            have hc1f1 := hc1.frozen 1
            have hc1c2 := hc1.cell 2 _ rfl
            have hc1f2 := hc1.frozen 2
            have hc1c3 := hc1.cell 3 _ rfl
            have hc1f3 := hc1.frozen 3
            have hc1c4 := hc1.cell 4 _ rfl
            have hc1f4 := hc1.frozen 4
            have hc1c5 := hc1.cell 5 _ rfl
            have hc1f5 := hc1.frozen 5
            have hc1c6 := hc1.cell 6 _ rfl
            have hc1f6 := hc1.frozen 6
            have hc1c7 := hc1.cell 7 _ rfl
            have hc1f7 := hc1.frozen 7
            go_wp2_with fail
            go_ret
            refine ⟨⟨true, rfl, yes_iff ?_⟩, HB.out.trans (HBL.out.mono HB.out.size)⟩
            refine HP.out.2 ?_
            have h3 := hR.out
            have h4 := HKS.out
            have h5 := hd1.out
            have h6 := hd2.out
            subst h3 h4 h5 h6
            simp only [Tree.mk.injEq]
            simp [*]
      · have hR : Hid (kids1 ≠ kids2) := Lib.hid (by rintro rfl; exact hlen rfl)
        have hq : ((kids1.length : Int) != (kids2.length : Int)) = true := by rw [bne_iff_ne]; omega
        clear hlen
        have hc0c0 := hc0.cell 0 _ rfl
        have hc0f0 := hc0.frozen 0
        have hc0c1 := hc0.cell 1 _ rfl
        have hc0f1 := hc0.frozen 1
        have hc0c2 := hc0.cell 2 _ rfl
        have hc0f2 := hc0.frozen 2
        have hc0c3 := hc0.cell 3 _ rfl
        have hc0f3 := hc0.frozen 3
        have hc0c4 := hc0.cell 4 _ rfl
        have hc0f4 := hc0.frozen 4
        have hc0c5 := hc0.cell 5 _ rfl
        have hc0f5 := hc0.frozen 5
        have hc0c6 := hc0.cell 6 _ rfl
        have hc0f6 := hc0.frozen 6
        have hc0c7 := hc0.cell 7 _ rfl
        have hc0f7 := hc0.frozen 7
        have hc1c0 := hc1.cell 0 _ rfl
        have hc1f0 := hc1.frozen 0
        have hc1c1 := hc1.cell 1 _ rfl
        have hc1f1 := hc1.frozen 1
        have hc1c2 := hc1.cell 2 _ rfl
        have hc1f2 := hc1.frozen 2
        have hc1c3 := hc1.cell 3 _ rfl
        have hc1f3 := hc1.frozen 3
        have hc1c4 := hc1.cell 4 _ rfl
        have hc1f4 := hc1.frozen 4
        have hc1c5 := hc1.cell 5 _ rfl
        have hc1f5 := hc1.frozen 5
        have hc1c6 := hc1.cell 6 _ rfl
        have hc1f6 := hc1.frozen 6
        have hc1c7 := hc1.cell 7 _ rfl
        have hc1f7 := hc1.frozen 7
        go_wp2_with fail
        go_ret
        refine ⟨⟨false, rfl, no_iff (fun h => ?_)⟩, HB.out⟩
        have h2 := HP.out.1 h
        simp only [Tree.mk.injEq] at h2
        exact hR.out h2.2.2.2.2.2.2.2
  all_goals
    go_ret
    refine ⟨⟨false, rfl, no_iff (fun h => ?_)⟩, ?_⟩
    · have h2 := HP.out.1 h
      simp only [Tree.mk.injEq] at h2
      obtain ⟨rfl, rfl, rfl, rfl, rfl, rfl, rfl, rfl⟩ := h2
      simp at *
    · skip
      (repeat' (first | (with_reducible refine Below.setCell ?_ ?_ _) | (with_reducible refine Below.alloc ?_ ?_ _) | (with_reducible refine Below.drew ?_) | (with_reducible assumption) | (with_reducible exact Below.refl _ _) | (simp only [World.size_alloc, World.size_setCell, World.size_drew]; done) | (simp only [World.size_alloc, World.size_setCell, World.size_drew]; omega) | omega))

theorem rSame_upto (n : Nat) : ∀ (s t : Tree), s.bulk ≤ n → ∀ (w : World) (cs ds : List Value), ValAt w s cs → ValAt w t ds → Calls Tryd.prog 18 #[valV cs, valV ds] w (SameP (s = t) w) := by
  induction n with
  | zero => intro t _ h; have := bulk_pos t; omega
  | succ n IH =>
    intro s t h w cs ds hv hv2
    cases s
    cases t
    exact rSame_step n IH _ _ _ _ _ _ _ _ _ _ _ _ _ _ _ _ h _ Iff.rfl w cs ds hv hv2
theorem rSame_any (s t : Tree) (w : World) (cs ds : List Value) (hv : ValAt w s cs) (hv2 : ValAt w t ds) : Calls Tryd.prog 18 #[valV cs, valV ds] w (SameP (s = t) w) :=
  rSame_upto s.bulk s t (Nat.le_refl _) w cs ds hv hv2
end Go.Proofs.YtpcfhiipkbpmkaaDoor
