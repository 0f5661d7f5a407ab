/- Texts of this claim, one behind the other: ExR, ExS, BoQ, BoB, BoC, QuX, BoD, BoE. -/
import Derived.Test.YthmmgpbojbjihaaGreatDoorMgb
import Derived.Test.YthmmgpbojbjihaaGreatDoorMgf
import Derived.Test.YthmmgpbojbjihaaGreatDoorMgg
set_option linter.unusedSimpArgs false
set_option linter.unusedVariables false

/- Two expressions held against each other, on both sides (layer 12). -/
namespace Go.Proofs.YthmmgpbojbjihaaGreatDoor
open Go.RowKit Go.Tab

/-- Kids, as they are found in an expression. -/
def KidsE (w : World) (a : Option Addr) (kids : List Exp) : Prop := ∀ (x : Addr), a = some x → kids ≠ [] → x.spot = none ∧ x.block < w.heap.size ∧ ExpsAt w x.block x.off kids
theorem KidsE.below {w w' : World} {a : Option Addr} {kids : List Exp} (h : KidsE w a kids) (hb : Below w.heap.size w w') : KidsE w' a kids := fun x hx hne => by
  obtain ⟨g1, g2, g3⟩ := h x hx hne
  exact ⟨g1, Nat.lt_of_lt_of_le g2 hb.size, ExpsAt.below hb g2 kids _ g3⟩
theorem ExpAt.open {w : World} {o t : ByteArray} {kids : List Exp} {cs : List Value} (h : ExpAt w (.mk o t kids) cs) : ∃ a cap, cs = [.string o, .string t, .slice a kids.length cap] ∧ kids.length ≤ cap ∧ cap ≤ maxLen ∧ (a = none → cap = 0) ∧ KidsE w a kids := by
  simp only [ExpAt] at h
  exact h
abbrev vX (cs : List Value) : Value := .agg cs.toArray
set_option maxHeartbeats 4000000 in
set_option maxRecDepth 100000 in
theorem rSame_step (n : Nat) (IH : ∀ (s t : Exp), s.bulk ≤ n → ∀ (w : World) (cs ds : List Value), ExpAt w s cs → ExpAt w t ds → Calls Tryz.prog 14 #[vX cs, vX ds] w (SameP (s = t) w))
    (o1 t1 : ByteArray) (kids1 : List Exp) (o2 t2 : ByteArray) (kids2 : List Exp) (hn : (Exp.mk o1 t1 kids1).bulk ≤ n + 1) (p : Prop) (hp : p ↔ Exp.mk o1 t1 kids1 = Exp.mk o2 t2 kids2)
    (w : World) (cs ds : List Value) (hv : ExpAt w (.mk o1 t1 kids1) cs) (hv2 : ExpAt w (.mk o2 t2 kids2) ds) : Calls Tryz.prog 14 #[vX cs, vX ds] w (SameP p w) := by
  have hkb : bulkX kids1 ≤ n := by simp only [Exp.bulk] at hn; omega
  obtain ⟨a, cap, rfl, hl, hm, hnil, hx⟩ := hv.open
  obtain ⟨a2, cap2, rfl, hl2, hm2, hnil2, hx2⟩ := hv2.open
  clear hv hv2 hn
  unfold maxLen at hm hm2
  simp only [vX]
  have hb0 : Below w.heap.size w ((w.alloc (.cells #[.string o1, .string t1, .slice a kids1.length cap] 34)).alloc (.cells #[.string o2, .string t2, .slice a2 kids2.length cap2] 34)) := ((Below.refl _ w).alloc (Nat.le_refl _) _).alloc (by simp) _
  by_cases ho : o1 = o2
  · subst ho
    by_cases ht : t1 = t2
    · subst ht
      by_cases hlen : kids1.length = kids2.length
      · have hq : ((kids1.length : Int) != (kids2.length : Int)) = false := by simp [hlen]
        have HP := Lib.hid hp
        have HL := Lib.hid hlen
        have HX := Lib.hid hx
        have HX2 := Lib.hid hx2
        have HIH := Lib.hid IH
        obtain ⟨hc0, hc1, hz0, hz1⟩ := two_new (Below.refl ((w.alloc (.cells #[.string o1, .string t1, .slice a kids1.length cap] 34)).alloc (.cells #[.string o1, .string t1, .slice a2 kids2.length cap2] 34)).heap.size ((w.alloc (.cells #[.string o1, .string t1, .slice a kids1.length cap] 34)).alloc (.cells #[.string o1, .string t1, .slice a2 kids2.length cap2] 34)))
        have HC0 := Lib.hid hc0
        have HC1 := Lib.hid hc1
        have HB := Lib.hid hb0
        clear hp hlen hx hx2 IH hc0 hc1 hb0
        go_enter Tryz.func14, Tryz.ntmps14
        go_wp2_with fail
        generalize (w.alloc (.cells #[.string o1, .string t1, .slice a kids1.length cap] 34)).alloc (.cells #[.string o1, .string t1, .slice a2 kids2.length cap2] 34) = w2 at *
        go_loopw [5] (fun i wr => ∃ k : Nat, k ≤ kids1.length ∧ i = .int .i64 (k : Int) ∧ (∀ j (h1 : j < kids1.length) (h2 : j < kids2.length), j < k → kids1[j] = kids2[j]) ∧ Below w2.heap.size w2 wr) (fun i _ => kids1.length - (intOf i).toNat)
        case atStart => exact ⟨0, Nat.zero_le _, rfl, fun j _ _ h => by omega, Below.refl _ _⟩
        case round =>
          obtain ⟨k, hk, rfl, hall, hbl⟩ := hrel
          have hc0 := HC0.out.below hbl hz0
          have hc1 := HC1.out.below hbl hz1
          have hy0 := hc0.lt
          have hy1 := hc1.lt
          have HBL := Lib.hid hbl
          have HA := Lib.hid hall
          clear hall
          by_cases hkl : k < kids1.length
          · have hkl2 : k < kids2.length := by have := HL.out; omega
            have hne : kids1 ≠ [] := by intro h0; rw [h0] at hkl; simp at hkl
            have hne2 : kids2 ≠ [] := by intro h0; rw [h0] at hkl2; simp at hkl2
            cases a with
            | none => have := hnil rfl; omega
            | some x =>
            cases a2 with
            | none => have := hnil2 rfl; omega
            | some x2 =>
            obtain ⟨bb, off, sp⟩ := x
            obtain ⟨bb2, off2, sp2⟩ := x2
            obtain ⟨rfl, hlt, hkids⟩ := KidsE.below (KidsE.below HX.out HB.out) hbl _ rfl hne
            obtain ⟨rfl, hlt2, hkids2⟩ := KidsE.below (KidsE.below HX2.out HB.out) hbl _ rfl hne2
            simp only at hlt hkids hlt2 hkids2
            obtain ⟨kc0, hkc, hkv⟩ := ExpsAt.get hkids k hkl
            obtain ⟨kop, ktext, ksa, ksn, ksc, rfl, m0, m1, m2⟩ := exp_at hkv hkc
            obtain ⟨jc0, hjc, hjv⟩ := ExpsAt.get hkids2 k hkl2
            obtain ⟨jop, jtext, jsa, jsn, jsc, rfl, n0, n1, n2⟩ := exp_at hjv hjc
            have hIH := HIH.out kids1[k] kids2[k] (by have := bulkX_kid hkl; omega)
            have HD : Hid (kids1[k] = kids2[k] → ∀ j (h1 : j < kids1.length) (h2 : j < kids2.length), j < k + 1 → kids1[j] = kids2[j]) := Lib.hid (fun heq j h1 h2 h => by
                by_cases hjk : j = k
                · subst hjk; exact heq
                · exact HA.out j h1 h2 (by omega))
            have HN : Hid (¬ kids1[k] = kids2[k] → kids1 ≠ kids2) := Lib.hid (fun h => rows_ne hkl hkl2 h)
            clear HA hkc hjc
            generalize kids1[k] = kid at *
            generalize kids2[k] = jid at *
            obtain ⟨b, hb⟩ := some_bool (kid = jid)
            have hcall := fun (x : Under wr) => Under.call x (SameP.fix hb (hIH x.w _ _ (hkv.under x) (hjv.under x)))
            clear hIH
            have HBB := Lib.hid hb
            clear hb
            have p0 := fun x : Under wr => (x.below.cell (p := ⟨w.heap.size, 2, none⟩) hy0).trans (hc0.cell 2 _ rfl)
            have p1 := fun x : Under wr => (x.below.cell (p := ⟨w.heap.size + 1, 2, none⟩) hy1).trans (hc1.cell 2 _ rfl)
            have M0 := fun x : Under wr => (x.below.cell (by exact hlt)).trans m0
            have M1 := fun x : Under wr => (x.below.cell (by exact hlt)).trans m1
            have M2 := fun x : Under wr => (x.below.cell (by exact hlt)).trans m2
            have O0 := fun x : Under wr => (x.below.cell (by exact hlt2)).trans n0
            have O1 := fun x : Under wr => (x.below.cell (by exact hlt2)).trans n1
            have O2 := fun x : Under wr => (x.below.cell (by exact hlt2)).trans n2
            clear m0 m1 m2 n0 n1 n2
            have hc0c0 := hc0.cell 0 _ rfl
            have hc0f0 := hc0.frozen 0
            have hc0c1 := hc0.cell 1 _ rfl
            have hc0f1 := hc0.frozen 1
            have hc0c2 := hc0.cell 2 _ rfl
            have hc0f2 := hc0.frozen 2
            have hc1c0 := hc1.cell 0 _ rfl
            have hc1f0 := hc1.frozen 0
            have hc1c1 := hc1.cell 1 _ rfl
            have hc1f1 := hc1.frozen 1
            have hc1c2 := hc1.cell 2 _ rfl
            have hc1f2 := hc1.frozen 2
            simp only [vX] at hcall
            go_wp2_with fail
            refine wp_region_under wr (by kernel_rfl) (by kernel_rfl) (Below.refl _ _) ?_
            repeat (go_big_quiet_step ((go_at_call 14; exact hcall _)))
            refine wpQuiet_nil ?_
            rintro _ ⟨x, rfl⟩
            have hb3 := HBL.out.trans (x.below.mono HBL.out.size)
            have HB3 := Lib.hid hb3
            clear M0 M1 M2 O0 O1 O2 p0 p1 hcall
            cases b
            · have HY := Lib.hid (HN.out (fun h => by have := HBB.out.2 h; cases this))
              clear HBB HN HD
              go_wp2_with fail
              go_ret
              refine ⟨⟨false, rfl, no_iff (fun h => ?_)⟩, HB.out.trans (HB3.out.mono HB.out.size)⟩
              have h2 := HP.out.1 h
              simp only [Exp.mk.injEq] at h2
              exact HY.out h2.2.2
            · have HY := Lib.hid (HD.out (HBB.out.1 rfl))
              clear HBB HN HD
              go_wp2_with fail
              go_roundw
              case rel => exact ⟨k + 1, by omega, by go_num, HY.out, HB3.out⟩
              case measure => simp [intOf]; omega
          · obtain rfl : k = kids1.length := by omega
            have hR := Lib.hid (rows_eq HL.out (fun j h1 h2 => HA.out j h1 h2 h1))
            clear HA
            have hc0c0 := hc0.cell 0 _ rfl
            have hc0f0 := hc0.frozen 0
            have hc0c1 := hc0.cell 1 _ rfl
            have hc0f1 := hc0.frozen 1
            have hc0c2 := hc0.cell 2 _ rfl
            have hc0f2 := hc0.frozen 2
            have hc1c0 := hc1.cell 0 _ rfl
            have hc1f0 := hc1.frozen 0
            have hc1c1 := hc1.cell 1 _ rfl
            have hc1f1 := hc1.frozen 1
            have hc1c2 := hc1.cell 2 _ rfl
            have hc1f2 := hc1.frozen 2
            go_wp2_with fail
            go_ret
            refine ⟨⟨true, rfl, yes_iff (HP.out.2 ?_)⟩, HB.out.trans (HBL.out.mono HB.out.size)⟩
            rw [hR.out]
      · have hq : ((kids1.length : Int) != (kids2.length : Int)) = true := by rw [bne_iff_ne]; omega
        have HN : Hid (¬ p) := Lib.hid (fun h => by have := hp.1 h; simp only [Exp.mk.injEq] at this; exact hlen (by rw [this.2.2]))
        have HB := Lib.hid hb0
        clear hlen hp hb0
        go_enter Tryz.func14, Tryz.ntmps14
        go_wp2
        go_ret
        exact ⟨⟨false, rfl, no_iff (fun h => (HN.out h).elim)⟩, HB.out⟩
    · have hq := str_ne ht
      have HN : Hid (¬ p) := Lib.hid (fun h => by have := hp.1 h; simp only [Exp.mk.injEq] at this; exact ht this.2.1)
      have HB := Lib.hid hb0
      clear ht hp hb0
      go_enter Tryz.func14, Tryz.ntmps14
      go_wp2
      go_ret
      exact ⟨⟨false, rfl, no_iff (fun h => (HN.out h).elim)⟩, HB.out⟩
  · have hq := str_ne ho
    have HN : Hid (¬ p) := Lib.hid (fun h => by have := hp.1 h; simp only [Exp.mk.injEq] at this; exact ho this.1)
    have HB := Lib.hid hb0
    clear ho hp hb0
    go_enter Tryz.func14, Tryz.ntmps14
    go_wp2
    go_ret
    exact ⟨⟨false, rfl, no_iff (fun h => (HN.out h).elim)⟩, HB.out⟩

theorem rSame_upto (n : Nat) : ∀ (s t : Exp), s.bulk ≤ n → ∀ (w : World) (cs ds : List Value), ExpAt w s cs → ExpAt w t ds → Calls Tryz.prog 14 #[vX cs, vX ds] w (SameP (s = t) w) := by
  induction n with
  | zero => intro t _ h; have := bulkX_pos t; omega
  | succ n IH =>
    intro s t h w cs ds hv hv2
    cases s
    cases t
    exact rSame_step n IH _ _ _ _ _ _ h _ Iff.rfl w cs ds hv hv2
/-- Same: just if they are. -/
theorem rSame_any (s t : Exp) (w : World) (cs ds : List Value) (hv : ExpAt w s cs) (hv2 : ExpAt w t ds) : Calls Tryz.prog 14 #[vX cs, vX ds] w (SameP (s = t) w) :=
  rSame_upto s.bulk s t (Nat.le_refl _) w cs ds hv hv2
set_option maxHeartbeats 4000000 in
set_option maxRecDepth 100000 in
theorem xSame_step (n : Nat) (IH : ∀ (s t : Exp), s.bulk ≤ n → ∀ (w : World) (cs ds : List Value), ExpAt w s cs → ExpAt w t ds → Calls Tryz.prog 18 #[vX cs, vX ds] w (SameP (s = t) w))
    (o1 t1 : ByteArray) (kids1 : List Exp) (o2 t2 : ByteArray) (kids2 : List Exp) (hn : (Exp.mk o1 t1 kids1).bulk ≤ n + 1) (p : Prop) (hp : p ↔ Exp.mk o1 t1 kids1 = Exp.mk o2 t2 kids2)
    (w : World) (cs ds : List Value) (hv : ExpAt w (.mk o1 t1 kids1) cs) (hv2 : ExpAt w (.mk o2 t2 kids2) ds) : Calls Tryz.prog 18 #[vX cs, vX ds] w (SameP p w) := by
  have hkb : bulkX kids1 ≤ n := by simp only [Exp.bulk] at hn; omega
  obtain ⟨a, cap, rfl, hl, hm, hnil, hx⟩ := hv.open
  obtain ⟨a2, cap2, rfl, hl2, hm2, hnil2, hx2⟩ := hv2.open
  clear hv hv2 hn
  unfold maxLen at hm hm2
  simp only [vX]
  have hb0 : Below w.heap.size w ((w.alloc (.cells #[.string o1, .string t1, .slice a kids1.length cap] 34)).alloc (.cells #[.string o2, .string t2, .slice a2 kids2.length cap2] 34)) := ((Below.refl _ w).alloc (Nat.le_refl _) _).alloc (by simp) _
  by_cases ho : o1 = o2
  · subst ho
    by_cases ht : t1 = t2
    · subst ht
      by_cases hlen : kids1.length = kids2.length
      · have hq : ((kids1.length : Int) != (kids2.length : Int)) = false := by simp [hlen]
        have HP := Lib.hid hp
        have HL := Lib.hid hlen
        have HX := Lib.hid hx
        have HX2 := Lib.hid hx2
        have HIH := Lib.hid IH
        obtain ⟨hc0, hc1, hz0, hz1⟩ := two_new (Below.refl ((w.alloc (.cells #[.string o1, .string t1, .slice a kids1.length cap] 34)).alloc (.cells #[.string o1, .string t1, .slice a2 kids2.length cap2] 34)).heap.size ((w.alloc (.cells #[.string o1, .string t1, .slice a kids1.length cap] 34)).alloc (.cells #[.string o1, .string t1, .slice a2 kids2.length cap2] 34)))
        have HC0 := Lib.hid hc0
        have HC1 := Lib.hid hc1
        have HB := Lib.hid hb0
        clear hp hlen hx hx2 IH hc0 hc1 hb0
        go_enter Tryz.func18, Tryz.ntmps18
        go_wp2_with fail
        generalize (w.alloc (.cells #[.string o1, .string t1, .slice a kids1.length cap] 34)).alloc (.cells #[.string o1, .string t1, .slice a2 kids2.length cap2] 34) = w2 at *
        go_loopw [30] (fun i wr => ∃ k : Nat, k ≤ kids1.length ∧ i = .int .i64 (k : Int) ∧ (∀ j (h1 : j < kids1.length) (h2 : j < kids2.length), j < k → kids1[j] = kids2[j]) ∧ Below w2.heap.size w2 wr) (fun i _ => kids1.length - (intOf i).toNat)
        case atStart => exact ⟨0, Nat.zero_le _, rfl, fun j _ _ h => by omega, Below.refl _ _⟩
        case round =>
          obtain ⟨k, hk, rfl, hall, hbl⟩ := hrel
          have hc0 := HC0.out.below hbl hz0
          have hc1 := HC1.out.below hbl hz1
          have hy0 := hc0.lt
          have hy1 := hc1.lt
          have HBL := Lib.hid hbl
          have HA := Lib.hid hall
          clear hall
          by_cases hkl : k < kids1.length
          · have hkl2 : k < kids2.length := by have := HL.out; omega
            have hne : kids1 ≠ [] := by intro h0; rw [h0] at hkl; simp at hkl
            have hne2 : kids2 ≠ [] := by intro h0; rw [h0] at hkl2; simp at hkl2
            cases a with
            | none => have := hnil rfl; omega
            | some x =>
            cases a2 with
            | none => have := hnil2 rfl; omega
            | some x2 =>
            obtain ⟨bb, off, sp⟩ := x
            obtain ⟨bb2, off2, sp2⟩ := x2
            obtain ⟨rfl, hlt, hkids⟩ := KidsE.below (KidsE.below HX.out HB.out) hbl _ rfl hne
            obtain ⟨rfl, hlt2, hkids2⟩ := KidsE.below (KidsE.below HX2.out HB.out) hbl _ rfl hne2
            simp only at hlt hkids hlt2 hkids2
            obtain ⟨kc0, hkc, hkv⟩ := ExpsAt.get hkids k hkl
            obtain ⟨kop, ktext, ksa, ksn, ksc, rfl, m0, m1, m2⟩ := exp_at hkv hkc
            obtain ⟨jc0, hjc, hjv⟩ := ExpsAt.get hkids2 k hkl2
            obtain ⟨jop, jtext, jsa, jsn, jsc, rfl, n0, n1, n2⟩ := exp_at hjv hjc
            have hIH := HIH.out kids1[k] kids2[k] (by have := bulkX_kid hkl; omega)
            have HD : Hid (kids1[k] = kids2[k] → ∀ j (h1 : j < kids1.length) (h2 : j < kids2.length), j < k + 1 → kids1[j] = kids2[j]) := Lib.hid (fun heq j h1 h2 h => by
                by_cases hjk : j = k
                · subst hjk; exact heq
                · exact HA.out j h1 h2 (by omega))
            have HN : Hid (¬ kids1[k] = kids2[k] → kids1 ≠ kids2) := Lib.hid (fun h => rows_ne hkl hkl2 h)
            clear HA hkc hjc
            generalize kids1[k] = kid at *
            generalize kids2[k] = jid at *
            obtain ⟨b, hb⟩ := some_bool (kid = jid)
            have hcall := fun (x : Under wr) => Under.call x (SameP.fix hb (hIH x.w _ _ (hkv.under x) (hjv.under x)))
            clear hIH
            have HBB := Lib.hid hb
            clear hb
            have p0 := fun x : Under wr => (x.below.cell (p := ⟨w.heap.size, 2, none⟩) hy0).trans (hc0.cell 2 _ rfl)
            have p1 := fun x : Under wr => (x.below.cell (p := ⟨w.heap.size + 1, 2, none⟩) hy1).trans (hc1.cell 2 _ rfl)
            have M0 := fun x : Under wr => (x.below.cell (by exact hlt)).trans m0
            have M1 := fun x : Under wr => (x.below.cell (by exact hlt)).trans m1
            have M2 := fun x : Under wr => (x.below.cell (by exact hlt)).trans m2
            have O0 := fun x : Under wr => (x.below.cell (by exact hlt2)).trans n0
            have O1 := fun x : Under wr => (x.below.cell (by exact hlt2)).trans n1
            have O2 := fun x : Under wr => (x.below.cell (by exact hlt2)).trans n2
            clear m0 m1 m2 n0 n1 n2
            have hc0c0 := hc0.cell 0 _ rfl
            have hc0f0 := hc0.frozen 0
            have hc0c1 := hc0.cell 1 _ rfl
            have hc0f1 := hc0.frozen 1
            have hc0c2 := hc0.cell 2 _ rfl
            have hc0f2 := hc0.frozen 2
            have hc1c0 := hc1.cell 0 _ rfl
            have hc1f0 := hc1.frozen 0
            have hc1c1 := hc1.cell 1 _ rfl
            have hc1f1 := hc1.frozen 1
            have hc1c2 := hc1.cell 2 _ rfl
            have hc1f2 := hc1.frozen 2
            simp only [vX] at hcall
            go_wp2_with fail
            refine wp_region_under wr (by kernel_rfl) (by kernel_rfl) (Below.refl _ _) ?_
            repeat (go_big_quiet_step ((go_at_call 18; exact hcall _)))
            refine wpQuiet_nil ?_
            rintro _ ⟨x, rfl⟩
            have hb3 := HBL.out.trans (x.below.mono HBL.out.size)
            have HB3 := Lib.hid hb3
            clear M0 M1 M2 O0 O1 O2 p0 p1 hcall
            cases b
            · have HY := Lib.hid (HN.out (fun h => by have := HBB.out.2 h; cases this))
              clear HBB HN HD
              go_wp2_with fail
              go_ret
              refine ⟨⟨false, rfl, no_iff (fun h => ?_)⟩, HB.out.trans (HB3.out.mono HB.out.size)⟩
              have h2 := HP.out.1 h
              simp only [Exp.mk.injEq] at h2
              exact HY.out h2.2.2
            · have HY := Lib.hid (HD.out (HBB.out.1 rfl))
              clear HBB HN HD
              go_wp2_with fail
              go_roundw
              case rel => exact ⟨k + 1, by omega, by go_num, HY.out, HB3.out⟩
              case measure => simp [intOf]; omega
          · obtain rfl : k = kids1.length := by omega
            have hR := Lib.hid (rows_eq HL.out (fun j h1 h2 => HA.out j h1 h2 h1))
            clear HA
            have hc0c0 := hc0.cell 0 _ rfl
            have hc0f0 := hc0.frozen 0
            have hc0c1 := hc0.cell 1 _ rfl
            have hc0f1 := hc0.frozen 1
            have hc0c2 := hc0.cell 2 _ rfl
            have hc0f2 := hc0.frozen 2
            have hc1c0 := hc1.cell 0 _ rfl
            have hc1f0 := hc1.frozen 0
            have hc1c1 := hc1.cell 1 _ rfl
            have hc1f1 := hc1.frozen 1
            have hc1c2 := hc1.cell 2 _ rfl
            have hc1f2 := hc1.frozen 2
            go_wp2_with fail
            go_ret
            refine ⟨⟨true, rfl, yes_iff (HP.out.2 ?_)⟩, HB.out.trans (HBL.out.mono HB.out.size)⟩
            rw [hR.out]
      · have hq : ((kids1.length : Int) != (kids2.length : Int)) = true := by rw [bne_iff_ne]; omega
        have HN : Hid (¬ p) := Lib.hid (fun h => by have := hp.1 h; simp only [Exp.mk.injEq] at this; exact hlen (by rw [this.2.2]))
        have HB := Lib.hid hb0
        clear hlen hp hb0
        go_enter Tryz.func18, Tryz.ntmps18
        go_wp2
        go_ret
        exact ⟨⟨false, rfl, no_iff (fun h => (HN.out h).elim)⟩, HB.out⟩
    · have hq := str_ne ht
      have HN : Hid (¬ p) := Lib.hid (fun h => by have := hp.1 h; simp only [Exp.mk.injEq] at this; exact ht this.2.1)
      have HB := Lib.hid hb0
      clear ht hp hb0
      go_enter Tryz.func18, Tryz.ntmps18
      go_wp2
      go_ret
      exact ⟨⟨false, rfl, no_iff (fun h => (HN.out h).elim)⟩, HB.out⟩
  · have hq := str_ne ho
    have HN : Hid (¬ p) := Lib.hid (fun h => by have := hp.1 h; simp only [Exp.mk.injEq] at this; exact ho this.1)
    have HB := Lib.hid hb0
    clear ho hp hb0
    go_enter Tryz.func18, Tryz.ntmps18
    go_wp2
    go_ret
    exact ⟨⟨false, rfl, no_iff (fun h => (HN.out h).elim)⟩, HB.out⟩

theorem xSame_upto (n : Nat) : ∀ (s t : Exp), s.bulk ≤ n → ∀ (w : World) (cs ds : List Value), ExpAt w s cs → ExpAt w t ds → Calls Tryz.prog 18 #[vX cs, vX ds] w (SameP (s = t) w) := by
  induction n with
  | zero => intro t _ h; have := bulkX_pos t; omega
  | succ n IH =>
    intro s t h w cs ds hv hv2
    cases s
    cases t
    exact xSame_step n IH _ _ _ _ _ _ h _ Iff.rfl w cs ds hv hv2
/-- Same: just if they are. -/
theorem xSame_any (s t : Exp) (w : World) (cs ds : List Value) (hv : ExpAt w s cs) (hv2 : ExpAt w t ds) : Calls Tryz.prog 18 #[vX cs, vX ds] w (SameP (s = t) w) :=
  xSame_upto s.bulk s t (Nat.le_refl _) w cs ds hv hv2
end Go.Proofs.YthmmgpbojbjihaaGreatDoor

/- What the examples of the statements of layer 12 are: plain (layer 12). -/
namespace Go.Proofs.YthmmgpbojbjihaaGreatDoor
open Go.RowKit Go.Tab

def exA : Bs := [49, 32, 43, 32, 50, 32, 42, 32, 120, 46, 121]
def exB : Bs := [45, 32, 49, 32, 45, 32, 50]
def tokX (k : Int) (l : Bs) (p : Int) : Tok := ⟨k, strL l, p⟩
theorem lex_exA : lexP exA = ([tokX 2 [49] 0, tokX 4 [43] 2, tokX 2 [50] 4, tokX 4 [42] 6, tokX 1 [120] 8, tokX 4 [46] 9, tokX 1 [121] 10], -1, 0) := by kernel_rfl
theorem lex_exB : lexP exB = ([tokX 4 [45] 0, tokX 2 [49] 2, tokX 4 [45] 4, tokX 2 [50] 6], -1, 0) := by kernel_rfl
def num1X (l : Bs) : Exp := .mk oNum (strL l) []
theorem par_exA : parE (lexP exA).1 = (.mk (strL [43]) oNo [num1X [49], .mk (strL [42]) oNo [num1X [50], .mk oGet (strL [121]) [.mk oName (strL [120]) []]]], 7, 0) := by
  rw [lex_exA]; kernel_rfl
theorem par_exB : parE (lexP exB).1 = (.mk (strL [45]) oNo [.mk oNeg oNo [num1X [49]], num1X [50]], 4, 0) := by
  rw [lex_exB]; kernel_rfl

/-- Each token's text is a piece of the text. -/
theorem lexL_text : ∀ (k : Nat) (l : Bs) (p : Nat), l.length ≤ k → ∀ t ∈ (lexL l p).1, t.text.size ≤ l.length
  | 0, l, p, h => by
    obtain rfl := List.eq_nil_of_length_eq_zero (Nat.le_zero.1 h)
    intro t ht
    rw [lexL_nil] at ht
    cases ht
  | k + 1, [], p, _ => by
    intro t ht
    rw [lexL_nil] at ht
    cases ht
  | k + 1, c :: r, p, h => by
    simp only [List.length_cons] at h ⊢
    by_cases hb : blankB c = true
    · rw [lexL_blank hb]
      intro t ht
      have := lexL_text k r (p + 1) (by omega) t ht
      omega
    · have hb : blankB c = false := by simpa using hb
      cases ho : one1 (c :: r) with
      | bad off e =>
        rw [lexL_bad hb ho]
        intro t ht
        cases ht
      | tok kd sz =>
        have hs := one1_size ho
        rw [lexL_tok hb ho]
        intro t ht
        rcases List.mem_cons.1 ht with rfl | ht
        · show (strL ((c :: r).take sz)).size ≤ _
          have : (strL ((c :: r).take sz)).size = ((c :: r).take sz).length := by unfold strL; simp [ByteArray.size]
          rw [this, List.length_take, List.length_cons]
          omega
        · have := lexL_text k ((c :: r).drop sz) (p + sz) (by rw [List.length_drop, List.length_cons]; omega) t ht
          rw [List.length_drop, List.length_cons] at this
          omega
theorem lexP_len (l : Bs) : (lexP l).1.length ≤ l.length ∧ ∀ t ∈ (lexP l).1, t.text.size ≤ l.length := by
  unfold lexP
  split
  · exact ⟨lexL_len _ _ _ (Nat.le_refl _), lexL_text _ _ _ (Nat.le_refl _)⟩
  · exact ⟨Nat.zero_le _, fun t ht => by cases ht⟩
theorem size_list2 (s : ByteArray) : s.data.toList.length = s.size := by rw [Array.length_toList]; rfl
end Go.Proofs.YthmmgpbojbjihaaGreatDoor

/- Plain law of layer 12: what goes wrong, but for what lacks at the end, goes wrong at a token; texts of tokens are whole. -/
namespace Go.Proofs.YthmmgpbojbjihaaGreatDoor

def AtX (r : List Tok) (g : GotX) : Prop := g.2.2 = 0 ∨ g.2.2 = 2 ∨ g.2.2 = -1 ∨ g.2.1 < r.length
theorem AtX.and {r : List Tok} {g : GotX} {f : Exp → Nat → GotX} (h : AtX r g) (hf : AtX r (f g.1 g.2.1)) : AtX r (andX g f) := by
  by_cases he : g.2.2 = 0
  · rw [andX_ok he]; exact hf
  · rw [andX_bad he]; exact h
theorem AtX.up {r : List Tok} {g : GotX} {n : Nat} (h : AtX (r.drop n) g) : AtX r (upX n g) := by
  rcases h with h | h | h | h
  · exact .inl h
  · exact .inr (.inl h)
  · exact .inr (.inr (.inl h))
  · refine .inr (.inr (.inr ?_))
    rw [List.length_drop] at h
    simp only [upX]; omega
theorem AtX.ok {r : List Tok} {x : Exp} {n : Nat} : AtX r (x, n, 0) := .inl rfl
theorem AtX.bad {r : List Tok} {n : Nat} : AtX r (badX (r.drop n) n) := by
  unfold badX
  split
  · exact .inr (.inl rfl)
  · next h =>
    refine .inr (.inr (.inr ?_))
    refine Nat.lt_of_not_le fun hle => h ?_
    exact List.drop_eq_nil_of_le hle
theorem AtX.bad0 {r : List Tok} : AtX r (badX r 0) := by simpa using AtX.bad (r := r) (n := 0)
theorem AtX.deep {r : List Tok} {n : Nat} (h : n < r.length) : AtX r (deepX n) := .inr (.inr (.inr h))
theorem isS_lt {r : List Tok} {k : Nat} {w : ByteArray} (h : isS (r.drop k) w = true) : k < r.length := by
  have := isS_some h
  rw [List.length_drop] at this
  omega
theorem isS_ltN {r : List Tok} {k : Nat} {w : ByteArray} (h : ¬ isS (r.drop k) w = false) : k < r.length := isS_lt (by simpa using h)
theorem par_at : ∀ (n : Nat) (t : Nt) (r : List Tok) (d : Nat), t.okX r → AtX r (parX n t r d) := by
  intro n
  induction n with
  | zero => intro t r d _; exact .inr (.inr (.inl rfl))
  | succ n IH =>
    intro t r d ht
    cases t with
    | choice =>
      rw [parX]
      refine (IH (.term 1) r d (by simp only [Nt.okX]; omega)).and ?_
      split
      · exact .ok
      · next hq =>
        split
        · exact .deep (isS_ltN hq)
        · refine (IH .choice _ _ trivial).up.and ?_
          split
          · exact .bad
          · exact (IH .choice _ _ trivial).up.and .ok
    | term lv =>
      simp only [Nt.okX] at ht
      rw [parX]
      split
      · exact IH _ _ _ trivial
      · exact (IH (.term (lv + 1)) r d (by simp only [Nt.okX]; omega)).and (IH (.tloop lv _) _ _ (by simp only [Nt.okX]; omega)).up
    | tloop lv a =>
      simp only [Nt.okX] at ht
      rw [parX]
      split
      · exact .ok
      · exact (IH (.term (lv + 1)) _ d (by simp only [Nt.okX]; omega)).up.and (IH (.tloop lv _) _ _ (by simp only [Nt.okX]; omega)).up
    | tight =>
      rw [parX]
      split
      · exact IH _ _ _ trivial
      · next hs =>
        split
        · refine .deep ?_
          refine List.length_pos_iff.2 fun h => hs ?_
          rw [h]; exact ⟨rfl, rfl⟩
        · exact (IH .tight _ _ trivial).up.and .ok
    | post =>
      rw [parX]
      exact (IH .prime _ _ trivial).and (IH (.ploop _) _ _ trivial).up
    | ploop a =>
      rw [parX]
      split
      · next hdot =>
        have hl := isS_some hdot
        split
        · next hq =>
          have := AtX.bad (r := r) (n := 1)
          rw [hq] at this
          exact this
        · next t q hq =>
          split
          · exact (IH (.ploop _) _ _ trivial).up
          · exact .bad
      · split
        · next hlb =>
          split
          · exact .deep (isS_some hlb)
          · refine (IH .choice _ _ trivial).up.and ?_
            split
            · exact .bad
            · exact (IH (.ploop _) _ _ trivial).up
        · exact .ok
    | prime =>
      cases r with
      | nil => simp only [parX]; exact .bad0
      | cons t r' =>
        simp only [parX]
        split
        · split
          · next hs => exact (AtX.up (r := t :: r') (n := 1) (IH (.many sRp) r' d (isS_some hs))).and .ok
          · exact .ok
        · split
          · exact .ok
          · split
            · split
              · exact .inr (.inr (.inr (by simp)))
              · exact .ok
            · split
              · exact (IH (.many sRb) (t :: r') d (by simp [Nt.okX])).and .ok
              · split
                · split
                  · exact .deep (by simp)
                  · refine (AtX.up (r := t :: r') (n := 1) (IH .choice r' (d + 1) trivial)).and ?_
                    split
                    · exact .bad
                    · exact .ok
                · exact .bad0
    | many s =>
      have hl : 1 ≤ r.length := ht
      rw [parX]
      split
      · exact .deep hl
      · split
        · exact .ok
        · exact (IH (.mloop s []) _ _ trivial).up
    | mloop s l =>
      rw [parX]
      refine (IH .choice r (d + 1) trivial).and ?_
      split
      · exact (IH (.mloop s _) _ _ trivial).up
      · split
        · exact .ok
        · exact .bad
theorem parE_at (l : List Tok) (h0 : (parE l).2.2 ≠ 0) (h2 : (parE l).2.2 ≠ 2) : (parE l).2.1 < l.length := by
  unfold parE at h0 h2 ⊢
  by_cases hb : 1000 < l.length
  · rw [if_pos hb]; exact hb
  · rw [if_neg hb] at h0 h2 ⊢
    by_cases h : (parX (fuelX .choice l) .choice l 0).2.2 = 0
    · rw [if_pos h] at h0; exact absurd h h0
    · rw [if_neg h] at h0 h2 ⊢
      have hf := parX_fine (fuelX .choice l) .choice l 0 (Nat.le_refl _) trivial
      rcases par_at (fuelX .choice l) .choice l 0 trivial with q | q | q | q
      · exact absurd q h
      · exact absurd q h2
      · exact absurd q hf.1
      · exact q
theorem parE_le2 (l : List Tok) : (parE l).2.1 ≤ l.length := by
  unfold parE
  have hf := parX_fine (fuelX .choice l) .choice l 0 (Nat.le_refl _) trivial
  split
  · next h => show 1000 ≤ _; omega
  · split
    · exact hf.2.1
    · exact hf.2.1
end Go.Proofs.YthmmgpbojbjihaaGreatDoor

/- The small steps of the parser of lines: is it a sign, what goes wrong, what lacks (layer 13). -/
namespace Go.Proofs.YthmmgpbojbjihaaGreatDoor
open Go.RowKit Go.Tab

abbrev lineV (v : Value) (stop : Int) (last : Bool) : Value := .agg #[v, .int .i64 stop, .bool last]
abbrev lineC (v : Value) (stop : Int) (last : Bool) : Array Value := #[v, .int .i64 stop, .bool last]
/-- The parser's box. -/
abbrev PBox (w : World) (g : Nat) (v : Value) (a e : Int) : Prop := Cells w g #[v, .int .i64 a, .int .i64 e] 43
def lnE : LnR → Int × Int
  | .wrong a e => (a, e)
  | _ => (0, 0)
def lnK : LnR → Int
  | .wrong _ _ => 0
  | .empty => 1
  | .attr _ => 2
  | .begins _ => 3
  | .bare _ => 4
  | .fin => 5
def lnX : LnR → Itm
  | .attr x => x
  | .begins x => x
  | .bare x => x
  | _ => zeroI
def signT (t : Tok) (s : ByteArray) : Bool := decide (t.kind = 4) && decide (t.text = s)
theorem isS_cons (t : Tok) (r : List Tok) (s : ByteArray) : isS (t :: r) s = signT t s := rfl
theorem text_dec (a b : ByteArray) : (a.toList == b.toList) = decide (a = b) := by
  by_cases h : a = b
  · subst h; simp
  · rw [decide_eq_false h]; exact str_ne h
set_option maxHeartbeats 4000000 in
set_option maxRecDepth 100000 in
theorem sign_tok (t : Tok) (s : ByteArray) (w : World) : Calls Tryz.prog 26 #[tokV t, .string s] w fun e w' => e = .returned (.bool (signT t s)) ∧ Below w.heap.size w w' := by
  obtain ⟨k, tx, p⟩ := t
  have hb1 : Below w.heap.size w (w.alloc (.cells #[.int .i64 k, .string tx, .int .i64 p] 45)) := (Below.refl _ w).alloc (Nat.le_refl _) _
  have ek : (k == 4) = decide (k = 4) := by
    by_cases h : k = 4
    · subst h; simp
    · rw [decide_eq_false h]; simpa using h
  have et := text_dec tx s
  unfold signT
  simp only [tokV]
  generalize decide (k = 4) = bk at *
  generalize decide (tx = s) = bt at *
  go_enter Tryz.func26, Tryz.ntmps26
  cases bk <;> cases bt
  all_goals
    go_wp2
    go_ret
    exact ⟨rfl, hb1⟩
set_option maxHeartbeats 4000000 in
set_option maxRecDepth 100000 in
theorem bfail_any (g : Nat) (v : Value) (a0 e0 a e : Int) (w : World) (h : PBox w g v a0 e0) : Calls Tryz.prog 13 #[.pointer (some ⟨g, 0, none⟩), .int .i64 a, .int .i64 e] w fun r w' => r = .returned (.tuple #[]) ∧ PBox w' g v a e ∧ w' = (w.setCell ⟨g, 1, none⟩ (.int .i64 a)).setCell ⟨g, 2, none⟩ (.int .i64 e) := by
  have hl := h.lt
  have HH := Lib.hid h
  have hc0 := h.cell 0 _ rfl
  have hf0 := h.frozen 0
  have hc1 := h.cell 1 _ rfl
  have hf1 := h.frozen 1
  have hc2 := h.cell 2 _ rfl
  have hf2 := h.frozen 2
  clear h
  go_enter Tryz.func13, Tryz.ntmps13
  go_wp2
  refine bodyPost_end (v := .tuple #[]) (by simp [results, Tryz.results13, go_sem]) rfl ?_
  exact ⟨rfl, by simpa using (HH.out.setI 1 (.int .i64 a)).setI 2 (.int .i64 e), rfl⟩
/-- What lacks: kept in the parser. -/
def LackP (g : Nat) (v : Value) (r : LnR) (w : World) (e : Ending) (w' : World) : Prop := e = .returned (.tuple #[]) ∧ Save g w w' ∧ PBox w' g v (lnE r).1 (lnE r).2
set_option maxHeartbeats 4000000 in
set_option maxRecDepth 100000 in
theorem lacks_any (g : Nat) (v : Value) (row : List Tok) (lv : Value) (stop : Int) (last : Bool) (i : Nat) (w : World) (h : PBox w g v 0 0) (hr : ToksAt w lv row) (hn : row.length ≤ 1000000) :
    Calls Tryz.prog 27 #[.pointer (some ⟨g, 0, none⟩), lineV lv stop last, .int .i64 (i : Nat)] w (LackP g v (lackR row stop last i) w) := by
  obtain ⟨ra, rc, rfl, hl1, hl2, -⟩ := hr.len
  unfold maxLen at hl2
  have hb1 : Below w.heap.size w (w.alloc (.cells (lineC (.slice ra row.length rc) stop last) 48)) := (Below.refl _ w).alloc (Nat.le_refl _) _
  have hP := h.below hb1 h.lt
  have hr1 := hr.below hb1 (Nat.le_refl _)
  have hF := fun a e => bfail_any g v 0 0 a e _ hP
  have hS1 : Save g w (w.alloc (.cells (lineC (.slice ra row.length rc) stop last) 48)) := Save.of hb1
  have HS := Lib.hid hS1
  clear hb1 hS1 h hr
  unfold lackR LackP
  simp only [lineV]
  by_cases hi : i < row.length
  · obtain ⟨b, off, rfl, hlt, c0, c1, c2⟩ := hr1.get hi
    rw [List.getElem?_eq_getElem hi]
    simp only [lnE]
    generalize row[i] = t at *
    clear hr1
    go_enter Tryz.func27, Tryz.ntmps27
    go_wp2_with fail
    refine (hF _ _).mono ?_
    rintro _ w2 ⟨rfl, hp2, rfl⟩
    go_wp2
    refine bodyPost_end (v := .tuple #[]) (by simp [results, Tryz.results27, go_sem]) rfl ?_
    exact ⟨rfl, (HS.out.set _ _).set _ _, hp2⟩
  · rw [List.getElem?_eq_none (by omega)]
    simp only
    clear hr1
    cases last with
    | true =>
      simp only [if_true, lnE]
      go_enter Tryz.func27, Tryz.ntmps27
      go_wp2_with fail
      refine (hF _ _).mono ?_
      rintro _ w2 ⟨rfl, hp2, rfl⟩
      go_wp2
      refine bodyPost_end (v := .tuple #[]) (by simp [results, Tryz.results27, go_sem]) rfl ?_
      exact ⟨rfl, (HS.out.set _ _).set _ _, hp2⟩
    | false =>
      simp only [Bool.false_eq_true, if_false, lnE]
      go_enter Tryz.func27, Tryz.ntmps27
      go_wp2_with fail
      refine (hF _ _).mono ?_
      rintro _ w2 ⟨rfl, hp2, rfl⟩
      go_wp2
      refine bodyPost_end (v := .tuple #[]) (by simp [results, Tryz.results27, go_sem]) rfl ?_
      exact ⟨rfl, (HS.out.set _ _).set _ _, hp2⟩
end Go.Proofs.YthmmgpbojbjihaaGreatDoor

/- A line that is an attribute (layer 13). -/
namespace Go.Proofs.YthmmgpbojbjihaaGreatDoor
open Go.RowKit Go.Tab

/-- The tokens from a place on. -/
theorem ToksAt.drop {w : World} {a : Option Addr} {n cap : Nat} {l : List Tok} (h : ToksAt w (.slice a n cap) l) {L : Nat} (h2 : L ≤ l.length) :
    ToksAt w (sliced a L l.length cap 3) (l.drop L) ∧ (sliced a L l.length cap 3).ownBlock = (Value.slice a n cap).ownBlock := by
  obtain ⟨a', cap', he, h3, h4, h5, h6⟩ := h
  cases he
  have hlen : (l.drop L).length = l.length - L := List.length_drop
  unfold sliced
  refine ⟨⟨_, _, by rw [hlen], by omega, by omega, fun hn => ?_, fun x hx hne => ?_⟩, ?_⟩
  · cases a with
    | none => have := h5 rfl; omega
    | some x => split at hn <;> simp at hn
  · cases a with
    | none => split at hx <;> simp at hx
    | some y =>
      have hl0 : l ≠ [] := by intro h0; subst h0; simp at hne
      obtain ⟨g1, g2, g3⟩ := h6 y rfl hl0
      split at hx
      · cases hx
        refine ⟨g1, g2, fun j hj => ?_⟩
        rw [List.length_drop] at hj
        omega
      · simp at hx
        obtain ⟨b, off, sp⟩ := y
        simp only at g1; subst g1
        rw [Addr.add_lit] at hx
        subst hx
        refine ⟨rfl, g2, fun j hj => ?_⟩
        rw [List.length_drop] at hj
        have := g3 (L + j) (by omega)
        simp only [Nat.add_mul, ← Nat.add_assoc] at this
        simp only [List.getElem_drop]
        exact this
  · cases a with
    | none => simp [Value.ownBlock]
    | some y => split <;> simp [Value.ownBlock, block_add]
section
variable {P : Program} {w : World} {ops : Array Oper} {rest : List Oper} {o : Oper} {a : Act} {Q : Exit → Act → World → Prop}
theorem run_sizeOf_n {e : TypeId} {n : Nat} (h : (P.info? e).map (fun i => i.size) = some n) (w : World) : (sizeOf e).run P w = .ok n w := by
  obtain ⟨i, hi, hs⟩ := Option.map_eq_some_iff.1 h
  simp [sizeOf, typeInfo, hi, hs]
/-- 's[lo:]', of tokens. -/
theorem wpList_slice_tok (hgd : Region.wanted o (yielded ops a.tmps) = true) (x lo : Operand) (t : TypeId) (ho : o.op = .slice t x (some lo) none none)
    (ht : P.underlying t = some (.slice (P.elem t))) (hs : (P.info? (P.elem t)).map (fun i => i.size) = some 3)
    (l : List Tok) (hrow : ToksAt w (a.eval x) l) (k : IntKind) (n : Int) (L : Nat) (eL : a.eval lo = .int k n) (hL : n = L) (h2 : L ≤ l.length)
    (hK : ∀ v', ToksAt w v' (l.drop L) → v'.ownBlock = (a.eval x).ownBlock → wpList P ops Q rest (a.put o.dst v') w) : wpList P ops Q (o :: rest) a w := by
  obtain ⟨ao, cap, hv, h3, h4, h5⟩ := hrow.len
  rw [hv] at hrow
  obtain ⟨r1, r2⟩ := hrow.drop h2
  refine wpList_want hgd fun K hK' => ?_
  subst hL
  have hrun := run_slice_l (P := P) w t ao l.length cap ht k (L : Int) (by omega) (by omega)
  unfold Oper.wp
  simp only [execOp, ho, hv, eL, Option.map_some, Option.map_none, Sem.run_bind, run_sliceAt_slice (P := P) w t _ _ _ _ ht, hrun, run_sizeOf_n hs, Result.andThen, Sem.run_pure, Oper.upon_value, Int.toNat_natCast]
  exact hK' _ _ (hK _ r1 (by rw [hv]; exact r2))
end
/-- What kind tells of a line. -/
def KindP (g : Nat) (v : Value) (r : LnR) (w : World) (e : Ending) (w' : World) : Prop := Save g w w' ∧ PBox w' g v (lnE r).1 (lnE r).2 ∧ ∃ cs, e = .returned (.tuple #[.int .i64 (lnK r), .agg cs.toArray]) ∧ ItmIn (fun b => w.heap.size ≤ b) w' (lnX r) cs ∧ cs[6]? = some (.slice none 0 0)
abbrev zeroIC : List Value := [.bool false, .string ⟨#[]⟩, .string ⟨#[]⟩, .string ⟨#[]⟩, .slice none 0 0, .slice none 0 0, .slice none 0 0]
theorem ItmIn.zero (P : Nat → Prop) (w : World) : ItmIn P w zeroI zeroIC := ItmIn.leaf (ExpIn.leaf _ _ _ _) RowIn.nil
theorem exp_shape {P : Nat → Prop} {w : World} {t : Exp} {o s : ByteArray} {v : Value} (h : ExpIn P w t [.string o, .string s, v]) : ∃ a n c, v = .slice a n c := by
  obtain ⟨o2, s2, a, n, c, he⟩ := h.shape
  simp only [List.cons.injEq, and_true] at he
  exact ⟨a, n, c, he.2.2⟩
theorem exp_put {w3 : World} {B n q : Nat} {x : Exp} {cs vals : List Value} (hq : q < B) (hn : n ≤ B) (hx : ExpIn (fun b => B ≤ b) w3 x cs) : ExpIn (fun b => n ≤ b) (setAll w3 q 0 vals).drew x cs :=
  ExpIn.move (P := fun b => B ≤ b) (Q := fun b => n ≤ b) (w := w3) (w' := (setAll w3 q 0 vals).drew) (Nat.le_of_eq (setAll_size q vals 0 w3).symm) (fun b (hb : B ≤ b) _ => setAll_other q vals 0 w3 b (by omega)) (fun b (hb : B ≤ b) _ => Nat.le_trans hn hb) x cs hx
theorem lack_zero (row : List Tok) (stop : Int) (last : Bool) (i : Nat) : lnK (lackR row stop last i) = 0 ∧ lnX (lackR row stop last i) = zeroI := by
  unfold lackR
  split
  · exact ⟨rfl, rfl⟩
  · split <;> exact ⟨rfl, rfl⟩
set_option maxHeartbeats 4000000 in
set_option maxRecDepth 100000 in
theorem attribute_any (g : Nat) (v : Value) (t t2 : Tok) (row : List Tok) (lv : Value) (stop : Int) (last : Bool) (w : World) (h : PBox w g v 0 0) (hr : ToksAt w lv (t :: t2 :: row)) (ho : ∀ b, lv.ownBlock = some b → b < w.heap.size) (hT : LexT w) (hn : row.length ≤ 900000) (hsh : ∀ t ∈ row, t.text.size ≤ 1000000) :
    Calls Tryz.prog 28 #[.pointer (some ⟨g, 0, none⟩), lineV lv stop last] w (KindP g v (attrK (t :: t2 :: row) stop last t.text) w) := by
  obtain ⟨ra, rc, rfl, hl1, hl2, -⟩ := hr.len
  obtain ⟨N, hN⟩ : ∃ N, N = (t :: t2 :: row).length := ⟨_, rfl⟩
  have hN2 : N = row.length + 2 := by rw [hN]; simp
  rw [← hN] at hr hl1 ho ⊢
  unfold maxLen at hl2
  have hNle : N ≤ row.length + 2 ∧ row.length + 2 ≤ N := by omega
  have HN := Lib.hid hN
  clear hN hN2
  obtain ⟨R, hR⟩ : ∃ R, R = attrK (t :: t2 :: row) stop last t.text := ⟨_, rfl⟩
  have HR := Lib.hid hR
  rw [← hR]
  clear hR
  have hb1 : Below w.heap.size w ((w.alloc (.cells (lineC (.slice ra N rc) stop last) 48)).alloc (.cells zeroIC.toArray 37)) := ((Below.refl _ w).alloc (Nat.le_refl _) _).alloc (by simp) _
  have k0 := (Cells.new w (lineC (.slice ra N rc) stop last) 48).alloc (.cells zeroIC.toArray 37)
  have k1 := Cells.new (w.alloc (.cells (lineC (.slice ra N rc) stop last) 48)) zeroIC.toArray 37
  simp only [World.size_alloc] at k1
  have hP1 := h.below hb1 h.lt
  have hr1 := hr.below hb1 (Nat.le_refl _)
  have hT1 := hT.below hb1
  have hgw := h.lt
  have hz1 : ((w.alloc (.cells (lineC (.slice ra N rc) stop last) 48)).alloc (.cells zeroIC.toArray 37)).heap.size = w.heap.size + 2 := by simp
  have HB := Lib.hid hb1
  have HK := Lib.hid (And.intro k0 (And.intro k1 (And.intro hP1 (And.intro hr1 hT1))))
  clear h hr hT hb1 k0 k1 hP1 hr1 hT1
  go_enter Tryz.func28, Tryz.ntmps28
  go_wp2_with (with_reducible first | refine stop_slice ?_)
  refine Stop.out ?_
  obtain ⟨k0, k1, hP1, hr1, hT1⟩ := HK.out
  generalize (w.alloc (.cells (lineC (.slice ra N rc) stop last) 48)).alloc (.cells zeroIC.toArray 37) = w1 at *
  refine wpList_slice_tok rfl _ _ _ rfl Tryz.underlying38 (by kernel_rfl) (t :: t2 :: row) (by exact hr1) .i64 2 2 rfl rfl (by simp) ?_
  intro v' hv' hvb
  simp only [List.drop_succ_cons, List.drop_zero] at hv'
  obtain ⟨va, vc, rfl, -⟩ := hv'.len
  have hE := exprParse_any w1 _ row hv' (fun b hb => by rw [hvb] at hb; exact Nat.lt_of_lt_of_le (ho b hb) HB.out.size) hT1.utf hT1.utf.pos (by omega) hsh
  clear hv' hvb
  have HZ := Lib.hid hz1
  clear hz1
  go_wp2_with fail
  refine hE.mono ?_
  clear hE
  rintro _ w2 ⟨hb2, o, tt, a, n, c, rfl, hX⟩
  have hat := parE_at row
  have hle := parE_le2 row
  obtain ⟨⟨x, k, e⟩, hg⟩ : ∃ q, parE row = q := ⟨_, rfl⟩
  have hRR := HR.out
  unfold attrK at hRR
  simp only [List.drop_succ_cons, List.drop_zero] at hRR
  rw [hg] at hX hat hle hRR ⊢
  simp only at hX hat hle hRR ⊢
  rw [← HN.out] at hRR
  clear HR hg
  have hal : Below w2.heap.size w2 (w2.alloc (.cells #[.string o, .string tt, .slice a n c] 34)) := (Below.refl _ _).alloc (Nat.le_refl _) _
  have hb3 := hb2.trans (hal.mono hb2.size)
  have k3 := k0.below hb3 k0.lt
  have q3 := k1.below hb3 k1.lt
  have p3 := hP1.below hb3 hP1.lt
  have r3 := hr1.below hb3 (Nat.le_refl _)
  have e3 := Cells.new w2 #[.string o, .string tt, .slice a n c] 34
  have hs3 : Save g w (w2.alloc (.cells #[.string o, .string tt, .slice a n c] 34)) := (Save.of HB.out).trans (Save.of hb3)
  have hX3 : ExpIn (fun b => w.heap.size + 2 ≤ b) (w2.alloc (.cells #[.string o, .string tt, .slice a n c] 34)) x [.string o, .string tt, .slice a n c] := ExpIn.below hal _ _ (ExpIn.move (Nat.le_refl _) (fun _ _ _ => rfl) (fun b hb _ => by rw [← HZ.out]; exact hb) _ _ hX)
  have hz3 : w.heap.size + 2 ≤ w2.heap.size := by rw [← HZ.out]; exact hb2.size
  have HX3 := Lib.hid (And.intro hX3 hs3)
  have hHK := Lib.hid (And.intro k3 (And.intro q3 (And.intro p3 (And.intro r3 e3))))
  have hk3l := k3.lt
  have hq3l := q3.lt
  have he3l := e3.lt
  clear HK k0 k1 hP1 hr1 hT1 hb2 hb3 hal hX hX3 hs3 HB
  by_cases hc1 : e = 2 ∨ (e = 0 ∧ 2 + k < N)
  · rw [if_pos hc1] at hRR
    have hL := lacks_any g v (t :: t2 :: row) (.slice ra N rc) stop last (2 + k) _ p3 r3 (by simp; omega)
    rw [show ((2 + k : Nat) : Int) = 2 + (k : Int) by omega, ← hRR] at hL
    have HRR := Lib.hid hRR
    have h0 : lnK R = 0 ∧ lnX R = zeroI := by rw [hRR]; exact lack_zero _ _ _ _
    have H0 := Lib.hid h0
    clear hRR h0 r3 p3 hat
    have k3c0 := k3.cell 0 _ rfl
    have k3f0 := k3.frozen 0
    have k3c1 := k3.cell 1 _ rfl
    have k3f1 := k3.frozen 1
    have k3c2 := k3.cell 2 _ rfl
    have k3f2 := k3.frozen 2
    have e3c0 := e3.cell 0 _ rfl
    have e3f0 := e3.frozen 0
    have e3c1 := e3.cell 1 _ rfl
    have e3f1 := e3.frozen 1
    have e3c2 := e3.cell 2 _ rfl
    have e3f2 := e3.frozen 2
    clear k3 q3 e3
    simp only [lineV] at hL
    rcases hc1 with rfl | ⟨rfl, hlt⟩
    · go_wp2_with fail
      refine hL.mono ?_
      clear hL k3c0 k3c1 k3c2 k3f0 k3f1 k3f2 e3c0 e3c1 e3c2 e3f0 e3f1 e3f2
      rintro _ w4 ⟨rfl, hs4, p4⟩
      have q4 := hs4.cells hHK.out.2.1 (by omega)
      have hl4 := q4.lt
      have HP4 := Lib.hid (And.intro p4 (HX3.out.2.trans hs4))
      have HQ4 := Lib.hid q4
      have q4c0 := q4.cell 0 _ rfl
      have q4f0 := q4.frozen 0
      have q4c1 := q4.cell 1 _ rfl
      have q4f1 := q4.frozen 1
      have q4c2 := q4.cell 2 _ rfl
      have q4f2 := q4.frozen 2
      have q4c3 := q4.cell 3 _ rfl
      have q4f3 := q4.frozen 3
      have q4c4 := q4.cell 4 _ rfl
      have q4f4 := q4.frozen 4
      have q4c5 := q4.cell 5 _ rfl
      have q4f5 := q4.frozen 5
      have q4c6 := q4.cell 6 _ rfl
      have q4f6 := q4.frozen 6
      clear q4 p4 hs4
      go_wp2_with fail
      have hqq := HQ4.out.put zeroIC 0
      have y0 := hqq.cell 0 (.bool false) rfl
      have y1 := hqq.cell 1 (.string ⟨#[]⟩) rfl
      have y2 := hqq.cell 2 (.string ⟨#[]⟩) rfl
      have y3 := hqq.cell 3 (.string ⟨#[]⟩) rfl
      have y4 := hqq.cell 4 (.slice none 0 0) rfl
      have y5 := hqq.cell 5 (.slice none 0 0) rfl
      have y6 := hqq.cell 6 (.slice none 0 0) rfl
      simp only [setAll] at y0 y1 y2 y3 y4 y5 y6
      refine bodyPost_ret (v := .tuple #[.int .i64 0, .agg #[.bool false, .string ⟨#[]⟩, .string ⟨#[]⟩, .string ⟨#[]⟩, .slice none 0 0, .slice none 0 0, .slice none 0 0]]) (by simp [results, Tryz.results28, go_sem, y0, y1, y2, y3, y4, y5, y6]) rfl ?_
      show KindP g v R w _ (setAll w4 (w.heap.size + 1) 0 zeroIC)
      exact ⟨HP4.out.2.setAllNew (by omega) _, HP4.out.1.setAllOther (by omega), zeroIC, by rw [H0.out.1], (by rw [H0.out.2]; exact ItmIn.zero _ _), rfl⟩
    · have hd : decide ((2 : Int) + (k : Int) < (N : Int)) = true := by rw [decide_eq_true_iff]; omega
      go_wp2_with fail
      refine hL.mono ?_
      clear hL k3c0 k3c1 k3c2 k3f0 k3f1 k3f2 e3c0 e3c1 e3c2 e3f0 e3f1 e3f2
      rintro _ w4 ⟨rfl, hs4, p4⟩
      have q4 := hs4.cells hHK.out.2.1 (by omega)
      have hl4 := q4.lt
      have HP4 := Lib.hid (And.intro p4 (HX3.out.2.trans hs4))
      have HQ4 := Lib.hid q4
      have q4c0 := q4.cell 0 _ rfl
      have q4f0 := q4.frozen 0
      have q4c1 := q4.cell 1 _ rfl
      have q4f1 := q4.frozen 1
      have q4c2 := q4.cell 2 _ rfl
      have q4f2 := q4.frozen 2
      have q4c3 := q4.cell 3 _ rfl
      have q4f3 := q4.frozen 3
      have q4c4 := q4.cell 4 _ rfl
      have q4f4 := q4.frozen 4
      have q4c5 := q4.cell 5 _ rfl
      have q4f5 := q4.frozen 5
      have q4c6 := q4.cell 6 _ rfl
      have q4f6 := q4.frozen 6
      clear q4 p4 hs4
      go_wp2_with fail
      have hqq := HQ4.out.put zeroIC 0
      have y0 := hqq.cell 0 (.bool false) rfl
      have y1 := hqq.cell 1 (.string ⟨#[]⟩) rfl
      have y2 := hqq.cell 2 (.string ⟨#[]⟩) rfl
      have y3 := hqq.cell 3 (.string ⟨#[]⟩) rfl
      have y4 := hqq.cell 4 (.slice none 0 0) rfl
      have y5 := hqq.cell 5 (.slice none 0 0) rfl
      have y6 := hqq.cell 6 (.slice none 0 0) rfl
      simp only [setAll] at y0 y1 y2 y3 y4 y5 y6
      refine bodyPost_ret (v := .tuple #[.int .i64 0, .agg #[.bool false, .string ⟨#[]⟩, .string ⟨#[]⟩, .string ⟨#[]⟩, .slice none 0 0, .slice none 0 0, .slice none 0 0]]) (by simp [results, Tryz.results28, go_sem, y0, y1, y2, y3, y4, y5, y6]) rfl ?_
      show KindP g v R w _ (setAll w4 (w.heap.size + 1) 0 zeroIC)
      exact ⟨HP4.out.2.setAllNew (by omega) _, HP4.out.1.setAllOther (by omega), zeroIC, by rw [H0.out.1], (by rw [H0.out.2]; exact ItmIn.zero _ _), rfl⟩
  · rw [if_neg hc1] at hRR
    have hx2 : e ≠ 2 := fun h => hc1 (.inl h)
    by_cases he : e = 0
    · subst he
      have hk : k = row.length := by
        have : ¬ 2 + k < N := fun h => hc1 (.inr ⟨rfl, h⟩)
        omega
      rw [if_pos rfl] at hRR
      have hd : decide ((2 : Int) + (k : Int) < (N : Int)) = false := by rw [decide_eq_false_iff_not]; omega
      obtain ⟨b, off, rfl, hlt, c0, c1, c2⟩ := r3.get (j := 0) (by simp)
      simp only [Nat.zero_mul, Nat.add_zero, List.getElem_cons_zero] at c0 c1 c2
      have HRR := Lib.hid hRR
      have HQ3 := Lib.hid q3
      have HP3 := Lib.hid p3
      clear hRR hk hc1 r3 p3 hat hx2
      have k3c0 := k3.cell 0 _ rfl
      have k3f0 := k3.frozen 0
      have k3c1 := k3.cell 1 _ rfl
      have k3f1 := k3.frozen 1
      have k3c2 := k3.cell 2 _ rfl
      have k3f2 := k3.frozen 2
      have e3c0 := e3.cell 0 _ rfl
      have e3f0 := e3.frozen 0
      have e3c1 := e3.cell 1 _ rfl
      have e3f1 := e3.frozen 1
      have e3c2 := e3.cell 2 _ rfl
      have e3f2 := e3.frozen 2
      have q3c0 := q3.cell 0 _ rfl
      have q3f0 := q3.frozen 0
      have q3c1 := q3.cell 1 _ rfl
      have q3f1 := q3.frozen 1
      have q3c2 := q3.cell 2 _ rfl
      have q3f2 := q3.frozen 2
      have q3c3 := q3.cell 3 _ rfl
      have q3f3 := q3.frozen 3
      have q3c4 := q3.cell 4 _ rfl
      have q3f4 := q3.frozen 4
      have q3c5 := q3.cell 5 _ rfl
      have q3f5 := q3.frozen 5
      have q3c6 := q3.cell 6 _ rfl
      have q3f6 := q3.frozen 6
      clear k3 q3 e3
      go_wp2_with fail
      go_region
      all_goals
        go_wp2_with fail
        have hqq := (HQ3.out.put [.bool false, .string t.text, .string o, .string tt, .slice a n c, .slice none 0 0, .slice none 0 0] 0).drew
        have y0 := hqq.cell 0 (.bool false) rfl
        have y1 := hqq.cell 1 (.string t.text) rfl
        have y2 := hqq.cell 2 (.string o) rfl
        have y3 := hqq.cell 3 (.string tt) rfl
        have y4 := hqq.cell 4 (.slice a n c) rfl
        have y5 := hqq.cell 5 (.slice none 0 0) rfl
        have y6 := hqq.cell 6 (.slice none 0 0) rfl
        simp only [setAll] at y0 y1 y2 y3 y4 y5 y6
        refine bodyPost_ret (v := .tuple #[.int .i64 2, .agg #[.bool false, .string t.text, .string o, .string tt, .slice a n c, .slice none 0 0, .slice none 0 0]]) (by simp [results, Tryz.results28, go_sem, y0, y1, y2, y3, y4, y5, y6]) rfl ?_
        show KindP g v R w _ (setAll (w2.alloc (.cells #[.string o, .string tt, .slice a n c] 34)) (w.heap.size + 1) 0 [.bool false, .string t.text, .string o, .string tt, .slice a n c, .slice none 0 0, .slice none 0 0]).drew
        rw [HRR.out]
        refine ⟨(HX3.out.2.setAllNew (by omega) _).drew, (HP3.out.setAllOther (by omega)).drew, [.bool false, .string t.text, .string o, .string tt, .slice a n c, .slice none 0 0, .slice none 0 0], rfl, ?_⟩
        refine ⟨ItmIn.leaf ?_ RowIn.nil, rfl⟩
        exact exp_put (q := w.heap.size + 1) (B := w.heap.size + 2) (by omega) (by omega) HX3.out.1
    · rw [if_neg he] at hRR
      have hkl := hat he hx2
      have hlt : 2 + k < (t :: t2 :: row).length := by simp; omega
      rw [List.getElem?_eq_getElem hlt] at hRR
      obtain ⟨b, off, rfl, hlt2, c0, c1, c2⟩ := r3.get (j := 2 + k) hlt
      simp only at hRR
      generalize (t :: t2 :: row)[2 + k] = tk at *
      have hF := bfail_any g v 0 0 tk.pos e _ p3
      have hqe : (e == 0) = false := by simpa using he
      have hqn : (e != 0) = true := by simpa using he
      have hq2 : (e == 2) = false := by simpa using hx2
      have HRR := Lib.hid hRR
      clear hRR r3 p3 hat hc1 he hx2 hlt
      have k3c0 := k3.cell 0 _ rfl
      have k3f0 := k3.frozen 0
      have k3c1 := k3.cell 1 _ rfl
      have k3f1 := k3.frozen 1
      have k3c2 := k3.cell 2 _ rfl
      have k3f2 := k3.frozen 2
      have e3c0 := e3.cell 0 _ rfl
      have e3f0 := e3.frozen 0
      have e3c1 := e3.cell 1 _ rfl
      have e3f1 := e3.frozen 1
      have e3c2 := e3.cell 2 _ rfl
      have e3f2 := e3.frozen 2
      clear k3 q3 e3
      have hd1 : (2 : Int) + (k : Int) < (N : Int) := by omega
      have ha2 : off + (2 + k) * 3 = off + (2 + k) * 3 := rfl
      go_wp2_with fail
      refine hF.mono ?_
      clear hF k3c0 k3c1 k3c2 k3f0 k3f1 k3f2 e3c0 e3c1 e3c2 e3f0 e3f1 e3f2 c0 c1 c2
      rintro _ w4 ⟨rfl, p4, hw4⟩
      have hs4 : Save g (w2.alloc (.cells #[.string o, .string tt, .slice a n c] 34)) w4 := by rw [hw4]; exact ((Save.refl _ _).set _ _).set _ _
      clear hw4
      have H0 : Hid (lnK R = 0 ∧ lnX R = zeroI) := Lib.hid (by rw [HRR.out]; exact ⟨rfl, rfl⟩)
      have p4 : PBox w4 g v (lnE R).1 (lnE R).2 := by rw [HRR.out]; exact p4
      have q4 := hs4.cells hHK.out.2.1 (by omega)
      have hl4 := q4.lt
      have HP4 := Lib.hid (And.intro p4 (HX3.out.2.trans hs4))
      have HQ4 := Lib.hid q4
      have q4c0 := q4.cell 0 _ rfl
      have q4f0 := q4.frozen 0
      have q4c1 := q4.cell 1 _ rfl
      have q4f1 := q4.frozen 1
      have q4c2 := q4.cell 2 _ rfl
      have q4f2 := q4.frozen 2
      have q4c3 := q4.cell 3 _ rfl
      have q4f3 := q4.frozen 3
      have q4c4 := q4.cell 4 _ rfl
      have q4f4 := q4.frozen 4
      have q4c5 := q4.cell 5 _ rfl
      have q4f5 := q4.frozen 5
      have q4c6 := q4.cell 6 _ rfl
      have q4f6 := q4.frozen 6
      clear q4 p4 hs4
      go_wp2_with fail
      have hqq := HQ4.out.put zeroIC 0
      have y0 := hqq.cell 0 (.bool false) rfl
      have y1 := hqq.cell 1 (.string ⟨#[]⟩) rfl
      have y2 := hqq.cell 2 (.string ⟨#[]⟩) rfl
      have y3 := hqq.cell 3 (.string ⟨#[]⟩) rfl
      have y4 := hqq.cell 4 (.slice none 0 0) rfl
      have y5 := hqq.cell 5 (.slice none 0 0) rfl
      have y6 := hqq.cell 6 (.slice none 0 0) rfl
      simp only [setAll] at y0 y1 y2 y3 y4 y5 y6
      refine bodyPost_ret (v := .tuple #[.int .i64 0, .agg #[.bool false, .string ⟨#[]⟩, .string ⟨#[]⟩, .string ⟨#[]⟩, .slice none 0 0, .slice none 0 0, .slice none 0 0]]) (by simp [results, Tryz.results28, go_sem, y0, y1, y2, y3, y4, y5, y6]) rfl ?_
      show KindP g v R w _ (setAll w4 (w.heap.size + 1) 0 zeroIC)
      exact ⟨HP4.out.2.setAllNew (by omega) _, HP4.out.1.setAllOther (by omega), zeroIC, by rw [H0.out.1], (by rw [H0.out.2]; exact ItmIn.zero _ _), rfl⟩
end Go.Proofs.YthmmgpbojbjihaaGreatDoor

/- Plain law of layer 7: a quoted text is told by its own bytes alone, whatever is behind. -/
namespace Go.Proofs.YthmmgpbojbjihaaGreatDoor

theorem unitF_more : ∀ (k n : Nat) (l m : List Nat), (unitF k n l).2 = 0 → unitF k n (l.take k ++ m) = unitF k n l
  | 0, _, _, _, _ => by simp [unitF]
  | _ + 1, _, [], _, h => by simp [unitF] at h
  | k + 1, n, c :: r, m, h => by
    simp only [unitF, List.take_succ_cons, List.cons_append] at h ⊢
    cases hc : hexV c with
    | none => simp [hc] at h
    | some d =>
      rw [hc] at h
      simp only at h ⊢
      exact unitF_more k _ r m h
theorem unitQ_more {l : List Nat} (h : (unitQ l).2 = 0) (m : List Nat) : unitQ (l.take 4 ++ m) = unitQ l := unitF_more 4 0 l m h
theorem lowQ_more {n : Nat} {l : List Nat} (h : (lowQ n l).2.2 = 0) (m : List Nat) : lowQ n (l.take 6 ++ m) = lowQ n l := by
  match l with
  | [] => simp [lowQ, errR] at h
  | [c] => by_cases hc : c = 92 <;> simp [lowQ, errR, hc] at h
  | c :: d :: u =>
    by_cases hc : c = 92
    · by_cases hd : d = 117
      · have h1 : (unitQ u).2 = 0 := by
          unfold lowQ at h
          simp only at h
          rw [if_neg (by simp [hc]), if_neg (by simp [hd])] at h
          by_cases hu : (unitQ u).2 = 0
          · exact hu
          · rw [if_pos (by simpa using hu)] at h; exact absurd h hu
        have h2 := unitQ_more h1 m
        subst hc
        subst hd
        simp only [List.take_succ_cons, List.cons_append, lowQ, h2]
      · unfold lowQ at h; simp only at h; rw [if_neg (by simp [hc]), if_pos (by simpa using hd)] at h; simp [errR] at h
    · unfold lowQ at h; simp only at h; rw [if_pos (by simpa using hc)] at h; simp [errR] at h
theorem take_app_take {α : Type} (l m : List α) {a b : Nat} (h : a ≤ b) (hb : b ≤ l.length) : (l.take b ++ m).take a = l.take a := by
  rw [List.take_append_of_le_length (by simp; omega), List.take_take, Nat.min_eq_left h]
theorem codedQ_more {r : List Nat} (h : (codedQ r).2.2 = 0) (m : List Nat) : codedQ (r.take ((codedQ r).2.1 - 2) ++ m) = codedQ r := by
  have hsz := codedQ_ok h
  have hu : (unitQ r).2 = 0 := by
    unfold codedQ at h
    by_cases hu : (unitQ r).2 = 0
    · exact hu
    · rw [if_pos (by simpa using hu)] at h; exact absurd h hu
  have hv := unitQ_val hu
  unfold codedQ at h ⊢
  rw [if_neg (by simp [hu])] at h
  by_cases h1 : 56320 ≤ (unitQ r).1 ∧ (unitQ r).1 ≤ 57343
  · rw [if_pos h1] at h; simp [errR] at h
  rw [if_neg h1] at h
  by_cases h2 : (unitQ r).1 < 55296 ∨ 57343 < (unitQ r).1
  · have hq : unitQ (r.take 4 ++ m) = unitQ r := unitQ_more hu m
    simp only [if_neg (show ¬ (unitQ r).2 ≠ 0 by simp [hu]), if_neg h1, if_pos h2]
    simp only [show 6 - 2 = 4 from rfl, hq]
    simp only [if_neg (show ¬ (unitQ r).2 ≠ 0 by simp [hu]), if_neg h1, if_pos h2]
  · rw [if_neg h2] at h
    obtain ⟨_, _, _, h12, h6⟩ := lowQ_ok (by omega) h
    have hl : 10 ≤ r.length := by simp at h6; omega
    have hq : unitQ (r.take 10 ++ m) = unitQ r := by
      have := unitQ_more hu ((r.take 10).drop 4 ++ m)
      rw [← this]
      congr 1
      rw [← List.append_assoc]
      congr 1
      conv => lhs; rw [← List.take_append_drop 4 (r.take 10)]
      rw [List.take_take]; rfl
    have hd : (r.take 10 ++ m).drop 4 = (r.drop 4).take 6 ++ m := by
      rw [List.drop_append_of_le_length (by simp; omega), List.drop_take]
    simp only [if_neg (show ¬ (unitQ r).2 ≠ 0 by simp [hu]), if_neg h1, if_neg h2, h12]
    simp only [show 12 - 2 = 10 from rfl, hq]
    simp only [if_neg (show ¬ (unitQ r).2 ≠ 0 by simp [hu]), if_neg h1, if_neg h2, hd]
    exact lowQ_more h m
theorem partQ_cons (c : Nat) (r : List Nat) : partQ (c :: r) = if c < 32 then errR 3 else if c = 92 then escQ r else if (oneN (c :: r)).2 = 0 then errR 7 else ((c :: r).take (oneN (c :: r)).2, (oneN (c :: r)).2, 0) := rfl
theorem partQ_more {l : List Nat} (hl : Byt l) (h : (partQ l).2.2 = 0) (m : List Nat) : partQ (l.take (partQ l).2.1 ++ m) = partQ l := by
  have hok := partQ_ok hl h
  match l with
  | [] => simp [partQ, errR] at h
  | c :: r =>
    simp only [partQ] at h hok ⊢
    by_cases h1 : c < 32
    · rw [if_pos h1] at h; simp [errR] at h
    rw [if_neg h1] at h hok ⊢
    by_cases h2 : c = 92
    · rw [if_pos h2] at h hok ⊢
      match r with
      | [] => simp [escQ, errR] at h
      | d :: t =>
        simp only [escQ] at h hok ⊢
        cases hd : escB d with
        | some b =>
          rw [hd] at h hok
          simp only [List.take_succ_cons, List.cons_append, List.take_zero]
          rw [if_neg h1, if_pos h2]
          simp only [hd]
        | none =>
          rw [hd] at h hok
          simp only at h hok ⊢
          by_cases h3 : d = 117
          · rw [if_pos h3] at h hok ⊢
            have hm := codedQ_more h m
            obtain ⟨k, hk⟩ : ∃ k, (codedQ t).2.1 = k + 2 := by
              have : (codedQ t).2.1 = 6 ∨ (codedQ t).2.1 = 12 := by
                unfold codedQ at h ⊢
                by_cases hu : (unitQ t).2 = 0
                · rw [if_neg (by simp [hu])] at h ⊢
                  by_cases g1 : 56320 ≤ (unitQ t).1 ∧ (unitQ t).1 ≤ 57343
                  · rw [if_pos g1] at h; simp [errR] at h
                  · rw [if_neg g1] at h ⊢
                    by_cases g2 : (unitQ t).1 < 55296 ∨ 57343 < (unitQ t).1
                    · rw [if_pos g2]; exact .inl rfl
                    · rw [if_neg g2] at h ⊢
                      exact .inr (lowQ_ok (by omega) h).choose_spec.2.2.1
                · rw [if_pos (by simpa using hu)] at h; exact absurd h hu
              rcases this with h | h
              · exact ⟨4, h⟩
              · exact ⟨10, h⟩
            rw [hk] at hm
            simp only [Nat.add_sub_cancel] at hm
            rw [hk]
            simp only [List.take_succ_cons, List.cons_append]
            rw [if_neg h1, if_pos h2]
            simp only [hd]
            rw [if_pos h3, hm]
          · rw [if_neg h3] at h; simp [errR] at h
    · rw [if_neg h2] at h hok ⊢
      by_cases h3 : (oneN (c :: r)).2 = 0
      · rw [if_pos h3] at h; simp [errR] at h
      · rw [if_neg h3] at hok ⊢
        obtain ⟨q1, q2, q3, q4⟩ := put_oneN (c := (oneN (c :: r)).1) (n := (oneN (c :: r)).2) hl rfl h3
        have hn : oneN ((c :: r).take (oneN (c :: r)).2 ++ m) = oneN (c :: r) := by
          have h5 := oneN_put q1 m
          rw [show putN (oneN (c :: r)).1 = (c :: r).take (oneN (c :: r)).2 from q3, q2] at h5
          exact h5
        simp only
        obtain ⟨j, hj⟩ : ∃ j, (oneN (c :: r)).2 = j + 1 := ⟨(oneN (c :: r)).2 - 1, by omega⟩
        have hc : (c :: r).take (oneN (c :: r)).2 ++ m = c :: (r.take j ++ m) := by rw [hj]; simp
        rw [hc] at hn ⊢
        simp only
        rw [if_neg h1, if_neg h2, hn, if_neg h3]
        congr 1
        rw [← hc]
        rw [List.take_append_of_le_length (by rw [List.length_take]; omega), List.take_take, Nat.min_self]
theorem bodyQ_more : ∀ (k : Nat) (l m : List Nat), l.length ≤ k → Byt l → Byt m → (bodyQ l).2.2 = 0 → bodyQ (l.take (bodyQ l).2.1 ++ m) = bodyQ l
  | k, l, m, hk, hl, hm, h => by
    have hb : ∀ j, Byt (l.take j ++ m) := fun j x hx => by
      rcases List.mem_append.1 hx with hx | hx
      · exact hl x (List.mem_of_mem_take hx)
      · exact hm x hx
    by_cases h34 : l.head? = some 34
    · have e : bodyQ l = ([], 1, 0) := by rw [bodyQ_step hl, if_pos h34]
      rw [e]
      simp only
      cases l with
      | nil => cases h34
      | cons c r =>
        have hc : c = 34 := by simpa using h34
        subst hc
        rw [bodyQ_step (hb 1), if_pos (by simp)]
    · have hp : (partQ l).2.2 = 0 := by
        refine Decidable.byContradiction fun hn => ?_
        rw [bodyQ_step hl, if_neg h34, if_pos hn] at h
        exact hn h
      obtain ⟨_, _, _, q3, q4⟩ := partQ_ok hl hp
      have hr : (bodyQ (l.drop (partQ l).2.1)).2.2 = 0 := by
        refine Decidable.byContradiction fun hn => ?_
        rw [bodyQ_step hl, if_neg h34, if_neg (by simp [hp]), if_pos hn] at h
        exact hn h
      have e : bodyQ l = ((partQ l).1 ++ (bodyQ (l.drop (partQ l).2.1)).1, (partQ l).2.1 + (bodyQ (l.drop (partQ l).2.1)).2.1, 0) := by
        rw [bodyQ_step hl, if_neg h34, if_neg (by simp [hp]), if_neg (by simp [hr])]
      cases k with
      | zero => omega
      | succ k =>
        have ih := bodyQ_more k (l.drop (partQ l).2.1) m (by simp; omega) (hl.drop _) hm hr
        rw [e]
        simp only
        have hsp : l.take ((partQ l).2.1 + (bodyQ (l.drop (partQ l).2.1)).2.1) ++ m = l.take (partQ l).2.1 ++ ((l.drop (partQ l).2.1).take (bodyQ (l.drop (partQ l).2.1)).2.1 ++ m) := by
          rw [List.take_add, List.append_assoc]
        have hpm := partQ_more hl hp ((l.drop (partQ l).2.1).take (bodyQ (l.drop (partQ l).2.1)).2.1 ++ m)
        rw [hsp]
        have hbb := hb ((partQ l).2.1 + (bodyQ (l.drop (partQ l).2.1)).2.1)
        rw [hsp] at hbb
        have hh : (l.take (partQ l).2.1 ++ ((l.drop (partQ l).2.1).take (bodyQ (l.drop (partQ l).2.1)).2.1 ++ m)).head? ≠ some 34 := by
          cases l with
          | nil => simp at q4; omega
          | cons c r =>
            obtain ⟨j, hj⟩ : ∃ j, (partQ (c :: r)).2.1 = j + 1 := ⟨(partQ (c :: r)).2.1 - 1, by omega⟩
            rw [hj]
            simpa using h34
        rw [bodyQ_step hbb, if_neg hh, hpm, if_neg (by simp [hp])]
        have hd : (l.take (partQ l).2.1 ++ ((l.drop (partQ l).2.1).take (bodyQ (l.drop (partQ l).2.1)).2.1 ++ m)).drop (partQ l).2.1 = (l.drop (partQ l).2.1).take (bodyQ (l.drop (partQ l).2.1)).2.1 ++ m := by
          rw [List.drop_append_of_le_length (by rw [List.length_take]; omega), List.drop_eq_nil_of_le (by rw [List.length_take]; omega), List.nil_append]
        rw [hd, ih, if_neg (by simp [hr])]
theorem scanQ_more {l m : List Nat} (hl : Byt l) (hm : Byt m) (h : (scanQ l).2.2 = 0) : scanQ (l.take (scanQ l).2.1 ++ m) = scanQ l := by
  cases l with
  | nil => simp [scanQ, errR] at h
  | cons c r =>
    have hc : c = 34 := by
      refine Decidable.byContradiction fun hn => ?_
      rw [scanQ, if_pos hn] at h
      simp [errR] at h
    have e : scanQ (c :: r) = joinR [] 1 (bodyQ r) := by rw [scanQ, if_neg (by simpa using hc)]
    have hb : (bodyQ r).2.2 = 0 := by
      refine Decidable.byContradiction fun hn => ?_
      rw [e, joinR, if_pos hn] at h
      exact hn h
    have ih := bodyQ_more r.length r m (Nat.le_refl _) (fun x hx => hl x (by simp [hx])) hm hb
    rw [e, joinR, if_neg (by simp [hb])]
    simp only
    rw [Nat.add_comm 1, List.take_succ_cons, List.cons_append, scanQ, if_neg (by simpa using hc), ih, joinR, if_neg (by simp [hb])]
    simp [Nat.add_comm]
/-- A quoted token's text is whole. -/
theorem quoX_tok {l : Bs} {k n : Nat} (h : one1 l = .tok k n) (hk : k = 3) : quoX (strL (l.take n)) ≠ none := by
  subst hk
  cases l with
  | nil => cases h
  | cons c r =>
    rw [one1] at h
    split at h
    · simp only [LR.tok.injEq] at h; omega
    split at h
    · unfold num1 at h
      split at h
      · simp only [LR.tok.injEq] at h; omega
      · cases h
    split at h
    · unfold quo1 at h
      split at h
      · next hz =>
        simp only [LR.tok.injEq, true_and] at h
        subst h
        have hsz := scanQ_size (nb_byt (c :: r)) hz
        have hm := scanQ_more (m := []) (nb_byt (c :: r)) (fun x hx => by cases hx) hz
        rw [List.append_nil] at hm
        have hnb : nb ((c :: r).take (scanQ (nb (c :: r))).2.1) = (nb (c :: r)).take (scanQ (nb (c :: r))).2.1 := by unfold nb; rw [List.map_take]
        unfold quoX
        rw [strL_list, hnb, hm, if_pos]
        · simp
        · refine ⟨hz, ?_⟩
          rw [size_list, strL_list, List.length_take]
          rw [nb_len] at hsz
          omega
      · cases h
    split at h
    · simp only [LR.tok.injEq] at h; omega
    split at h
    · unfold remT at h
      split at h
      · cases h
      · simp only [LR.tok.injEq] at h; omega
    split at h
    · unfold aside1 at h
      split at h
      · cases h
      · split at h
        · cases h
        · unfold remT at h
          split at h
          · cases h
          · simp only [LR.tok.injEq] at h; omega
    split at h
    · cases h
    · simp only [LR.tok.injEq] at h; omega
theorem lexL_quo : ∀ (k : Nat) (l : Bs) (p : Nat), l.length ≤ k → ∀ t ∈ (lexL l p).1, t.kind = 3 → quoX t.text ≠ none
  | k, [], p, _, t, ht, _ => by rw [lexL_nil] at ht; cases ht
  | 0, c :: l, p, hk, _, _, _ => by simp at hk
  | k + 1, c :: l, p, hk, t, ht, h3 => by
    simp only [List.length_cons] at hk
    cases hb : blankB c with
    | true =>
      rw [lexL_blank hb] at ht
      exact lexL_quo k l (p + 1) (by omega) t ht h3
    | false =>
      cases ho : one1 (c :: l) with
      | bad o e => rw [lexL_bad hb ho] at ht; cases ht
      | tok kd sz =>
        have hs := one1_size ho
        rw [lexL_tok hb ho] at ht
        rcases List.mem_cons.1 ht with rfl | ht
        · exact quoX_tok ho (by simp only at h3; omega)
        · exact lexL_quo k _ _ (by rw [List.length_drop, List.length_cons]; omega) t ht h3
end Go.Proofs.YthmmgpbojbjihaaGreatDoor

/- A line that begins a block (layer 13). -/
namespace Go.Proofs.YthmmgpbojbjihaaGreatDoor
open Go.RowKit Go.Tab

theorem labs_len : ∀ r : List Tok, (labs r).length ≤ r.length
  | [] => Nat.le_refl _
  | t :: r => by
    have := labs_len r
    simp only [labs]
    split
    · simp only [List.length_cons]; omega
    · simp
/-- So many labels have come. -/
def LsAt (row : List Tok) (m : Nat) (pre : List ByteArray) : Prop := pre.length = m ∧ labs row = pre ++ labs (row.drop m)
theorem LsAt.zero (row : List Tok) : LsAt row 0 [] := ⟨rfl, rfl⟩
theorem LsAt.step {row : List Tok} {m : Nat} {pre : List ByteArray} (h : LsAt row m pre) (hm : m < row.length) (h3 : row[m].kind = 3) {x : ByteArray} (hx : quoX row[m].text = some x) : LsAt row (m + 1) (pre ++ [x]) := by
  refine ⟨by simp [h.1], ?_⟩
  rw [h.2, List.drop_eq_getElem_cons hm, labs, if_pos h3, hx]
  simp
theorem LsAt.stop {row : List Tok} {m : Nat} {pre : List ByteArray} (h : LsAt row m pre) (hm : m < row.length) (h3 : row[m].kind ≠ 3) : labs row = pre ∧ pre.length = m := by
  refine ⟨?_, h.1⟩
  rw [h.2, List.drop_eq_getElem_cons hm, labs, if_neg h3, List.append_nil]
theorem LsAt.done {row : List Tok} {m : Nat} {pre : List ByteArray} (h : LsAt row m pre) (hm : row.length ≤ m) : labs row = pre ∧ pre.length = m := by
  refine ⟨?_, h.1⟩
  rw [h.2, List.drop_eq_nil_of_le hm, labs, List.append_nil]
theorem Tryz.infoStr : (Tryz.prog.info? 9).map (fun i => (i.zero, i.size, i.bytes)) = some (some (.string ⟨#[]⟩), 1, 16) := by kernel_rfl
/-- The boxes of a block's line. -/
def BlkS (w W : World) (line xc : Array Value) (v : Value) (pre : List ByteArray) : Prop := Below w.heap.size w W ∧ Cells W w.heap.size line 48 ∧ Cells W (w.heap.size + 1) zeroIC.toArray 37 ∧ Cells W (w.heap.size + 2) xc 37 ∧ OwnOf Value.string 9 (w.heap.size + 3) W v pre ∧ w.heap.size + 3 ≤ W.heap.size
theorem BlkS.step {w W W' : World} {line xc : Array Value} {v : Value} {pre : List ByteArray} (h : BlkS w W line xc v pre) (hb : Below W.heap.size W W') : BlkS w W' line xc v pre :=
  ⟨h.1.trans (hb.mono h.1.size), h.2.1.below hb h.2.1.lt, h.2.2.1.below hb h.2.2.1.lt, h.2.2.2.1.below hb h.2.2.2.1.lt, h.2.2.2.2.1.below hb (Nat.le_refl _), Nat.le_trans h.2.2.2.2.2 hb.size⟩
theorem row_put {w3 : World} {B n q : Nat} {v : Value} {l : List ByteArray} {vals : List Value} (hq : q < B) (hn : n ≤ B) (hx : OwnOf Value.string 9 B w3 v l) : RowIn (fun b => n ≤ b) (setAll w3 q 0 vals).drew v l := by
  have ho : OwnOf Value.string 9 B (setAll w3 q 0 vals).drew v l := hx.moved (fun k hk => setAll_other q vals 0 w3 k (by have := (World.ownsRow.lt hx k hk).1; omega))
  exact ⟨ho.row, fun k hk => by have h9 := World.ownsRow.lt ho k hk; exact ⟨Nat.le_trans hn h9.1, h9.2⟩⟩
set_option maxHeartbeats 4000000 in
set_option maxRecDepth 100000 in
theorem block_any (g : Nat) (oa : Option Addr) (n oc : Nat) (t : Tok) (row : List Tok) (lv : Value) (stop : Int) (last : Bool) (w : World) (h : PBox w g (.slice oa n oc) 0 0) (hr : ToksAt w lv (t :: row)) (hT : Tab w) (hTg : 3 < w.heap.size) (hn : row.length ≤ 900000) (hsh : ∀ t ∈ row, t.text.size ≤ 1000000) (hq : ∀ t ∈ row, t.kind = 3 → quoX t.text ≠ none) :
    Calls Tryz.prog 29 #[.pointer (some ⟨g, 0, none⟩), lineV lv stop last] w (KindP g (.slice oa n oc) (blockK n (t :: row) stop last t.text) w) := by
  obtain ⟨ra, rc, rfl, hl1, hl2, -⟩ := hr.len
  obtain ⟨N, hN⟩ : ∃ N, N = (t :: row).length := ⟨_, rfl⟩
  have hNle : N ≤ row.length + 1 ∧ row.length + 1 ≤ N := by rw [hN]; simp
  rw [← hN] at hr hl1 ⊢
  unfold maxLen at hl2
  have HN := Lib.hid hN
  clear hN
  obtain ⟨R, hR⟩ : ∃ R, R = blockK n (t :: row) stop last t.text := ⟨_, rfl⟩
  have HR := Lib.hid hR
  rw [← hR]
  clear hR
  have hgw := h.lt
  obtain ⟨b, off, rfl, hlt, c0, c1, c2⟩ := hr.get (j := 0) (by simp)
  simp only [Nat.zero_mul, Nat.add_zero, List.getElem_cons_zero] at c0 c1 c2
  have H0 := Lib.hid (And.intro h (And.intro hr hT))
  clear h hr hT
  go_enter Tryz.func29, Tryz.ntmps29
  go_wp2_with fail
  have hbA : Below w.heap.size w (((w.alloc (.cells (lineC (.slice (some ⟨b, off, none⟩) N rc) stop last) 48)).alloc (.cells zeroIC.toArray 37)).alloc (.cells #[.bool true, .string t.text, .string ⟨#[]⟩, .string ⟨#[]⟩, .slice none 0 0, .slice none 0 0, .slice none 0 0] 37)) :=
    (((Below.refl _ w).alloc (Nat.le_refl _) _).alloc (by simp) _).alloc (by simp only [World.size_alloc]; omega) _
  have kA := ((Cells.new w (lineC (.slice (some ⟨b, off, none⟩) N rc) stop last) 48).alloc (.cells zeroIC.toArray 37)).alloc (.cells #[.bool true, .string t.text, .string ⟨#[]⟩, .string ⟨#[]⟩, .slice none 0 0, .slice none 0 0, .slice none 0 0] 37)
  have kB := (Cells.new (w.alloc (.cells (lineC (.slice (some ⟨b, off, none⟩) N rc) stop last) 48)) zeroIC.toArray 37).alloc (.cells #[.bool true, .string t.text, .string ⟨#[]⟩, .string ⟨#[]⟩, .slice none 0 0, .slice none 0 0, .slice none 0 0] 37)
  have kC := Cells.new ((w.alloc (.cells (lineC (.slice (some ⟨b, off, none⟩) N rc) stop last) 48)).alloc (.cells zeroIC.toArray 37)) #[.bool true, .string t.text, .string ⟨#[]⟩, .string ⟨#[]⟩, .slice none 0 0, .slice none 0 0, .slice none 0 0] 37
  simp only [World.size_alloc] at kB kC
  have hzA : (((w.alloc (.cells (lineC (.slice (some ⟨b, off, none⟩) N rc) stop last) 48)).alloc (.cells zeroIC.toArray 37)).alloc (.cells #[.bool true, .string t.text, .string ⟨#[]⟩, .string ⟨#[]⟩, .slice none 0 0, .slice none 0 0, .slice none 0 0] 37)).heap.size = w.heap.size + 3 := by simp
  generalize ((w.alloc (.cells (lineC (.slice (some ⟨b, off, none⟩) N rc) stop last) 48)).alloc (.cells zeroIC.toArray 37)).alloc (.cells #[.bool true, .string t.text, .string ⟨#[]⟩, .string ⟨#[]⟩, .slice none 0 0, .slice none 0 0, .slice none 0 0] 37) = wA at *
  have HA := Lib.hid (And.intro hbA (And.intro kA (And.intro kB (And.intro kC hzA))))
  clear hbA kA kB kC hzA
  go_loopw [4, 7, 8, 9] (fun _ iv _ _ wr => ∃ (m : Nat) (pre : List ByteArray) (v : Value), m ≤ row.length ∧ iv = .int .i64 ((1 + m : Nat) : Int) ∧ LsAt row m pre ∧ Below w.heap.size w wr ∧ Cells wr w.heap.size (lineC (.slice (some ⟨b, off, none⟩) N rc) stop last) 48 ∧
      Cells wr (w.heap.size + 1) zeroIC.toArray 37 ∧ Cells wr (w.heap.size + 2) #[.bool true, .string t.text, .string ⟨#[]⟩, .string ⟨#[]⟩, .slice none 0 0, v, .slice none 0 0] 37 ∧ OwnOf Value.string 9 (w.heap.size + 3) wr v pre ∧ w.heap.size + 3 ≤ wr.heap.size) (fun _ iv _ _ _ => N - (intOf iv).toNat)
  case atStart => exact ⟨0, [], _, Nat.zero_le _, rfl, LsAt.zero _, HA.out.1, HA.out.2.1, HA.out.2.2.1, HA.out.2.2.2.1, OwnOf.nil, by rw [HA.out.2.2.2.2]; exact Nat.le_refl _⟩
  case round =>
    clear HA c0 c1 c2 hlt
    obtain ⟨m, pre, v, hm, rfl, hls, hbl, k0, k1, k2, hown, hz⟩ := hrel
    obtain ⟨hp0, hr0, hT0⟩ := H0.out
    have hp := hp0.below hbl hgw
    have hr := hr0.below hbl (Nat.le_refl _)
    have hT1 := hT0.below hbl hTg
    have hlen : pre.length ≤ row.length := by rw [hls.1]; exact hm
    have HLS := Lib.hid hls
    obtain ⟨M, hM⟩ : ∃ M, M = 1 + m := ⟨_, rfl⟩
    have hMle : M ≤ 1 + m ∧ 1 + m ≤ M := by omega
    rw [← hM]
    have hk0l := k0.lt
    have hk1l := k1.lt
    have hk2l := k2.lt
    by_cases hlab : ∃ h : m < row.length, row[m].kind = 3
    · obtain ⟨hml, h3⟩ := hlab
      have hfl : M < (t :: row).length := by simp; omega
      have hfe : (t :: row)[M] = row[m] := by subst hM; simp [Nat.add_comm 1]
      obtain ⟨bb, ob, he, hlt, c0, c1, c2⟩ := hr.get hfl
      cases he
      rw [hfe] at c0 c1 c2
      rw [h3] at c0
      obtain ⟨x, hx, hpv⟩ := (quo_parse row[m].text).resolve_left (fun h => hq _ (List.getElem_mem _) h3 h.1)
      have hQ := Parse_any row[m].text wr (by have := hsh _ (List.getElem_mem hml); omega) hT1
      rw [hpv] at hQ
      have HST := Lib.hid (HLS.out.step hml h3 hx)
      have hdec : decide ((M : Int) < (N : Int)) = true := by rw [decide_eq_true_iff]; omega
      obtain ⟨va, vc, rfl, -⟩ := hown.row.len
      generalize row[m] = tk at *
      have HK := Lib.hid (And.intro k0 (And.intro k1 (And.intro k2 (And.intro hown hbl))))
      have k0c0 := k0.cell 0 _ rfl
      have k0f0 := k0.frozen 0
      have k0c1 := k0.cell 1 _ rfl
      have k0f1 := k0.frozen 1
      have k0c2 := k0.cell 2 _ rfl
      have k0f2 := k0.frozen 2
      have k2c0 := k2.cell 0 _ rfl
      have k2f0 := k2.frozen 0
      have k2c1 := k2.cell 1 _ rfl
      have k2f1 := k2.frozen 1
      have k2c2 := k2.cell 2 _ rfl
      have k2f2 := k2.frozen 2
      have k2c3 := k2.cell 3 _ rfl
      have k2f3 := k2.frozen 3
      have k2c4 := k2.cell 4 _ rfl
      have k2f4 := k2.frozen 4
      have k2c5 := k2.cell 5 _ rfl
      have k2f5 := k2.frozen 5
      have k2c6 := k2.cell 6 _ rfl
      have k2f6 := k2.frozen 6
      clear k0 k1 k2 hown hbl hls hp0 hr0 hT0 hp hr hT1 hfe hpv hM
      go_wp2_with fail
      refine hQ.mono ?_
      clear hQ k0c0 k0c1 k0c2 k0f0 k0f1 k0f2 k2c0 k2c1 k2c2 k2c3 k2c4 k2c5 k2c6 k2f0 k2f1 k2f2 k2f3 k2f4 k2f5 k2f6 c0 c1 c2
      rintro _ w2 ⟨rfl, hb2⟩
      obtain ⟨k0, k1, k2, hown, hbl⟩ := HK.out
      have k22 := k2.below hb2 k2.lt
      have own2 := hown.below hb2 (Nat.le_refl _)
      have hz2 := hb2.size
      have hl22 := k22.lt
      have HK2 := Lib.hid (And.intro (k0.below hb2 k0.lt) (And.intro (k1.below hb2 k1.lt) (And.intro k22 (hbl.trans (hb2.mono hbl.size)))))
      clear k0 k1 k2 hown hbl hb2
      have k22c0 := k22.cell 0 _ rfl
      have k22f0 := k22.frozen 0
      have k22c1 := k22.cell 1 _ rfl
      have k22f1 := k22.frozen 1
      have k22c2 := k22.cell 2 _ rfl
      have k22f2 := k22.frozen 2
      have k22c3 := k22.cell 3 _ rfl
      have k22f3 := k22.frozen 3
      have k22c4 := k22.cell 4 _ rfl
      have k22f4 := k22.frozen 4
      have k22c5 := k22.cell 5 _ rfl
      have k22f5 := k22.frozen 5
      have k22c6 := k22.cell 6 _ rfl
      have k22f6 := k22.frozen 6
      go_wp2_with (with_reducible first | refine stop_append ?_)
      refine Stop.out ?_
      have hlit := OwnOf.lit (f := Value.string) (E := 9) (base := w2.heap.size) (w := w2) [x] (Nat.le_refl _) (by simp [maxLen])
      refine wpList_append_row rfl _ _ _ rfl (w.heap.size + 3) 9 16 (.string ⟨#[]⟩) Tryz.underlying35 Tryz.infoStr rfl (fun _ => rfl) pre [x] (by exact own2.alloc _) hlit.row (by simp; unfold maxLen; omega) (by simp; omega) (by simp; omega) (w2.alloc (.cells #[.string x] 9)) (Below.refl _ _) ?_
      intro v3 w3 own3 hb3 hg3
      obtain ⟨va3, vc3, rfl, -⟩ := own3.row.len
      have hrow : ∀ k, (Value.slice va pre.length vc).ownBlock = some k → w.heap.size + 3 ≤ k := fun k hk => (World.ownsRow.lt own2 k hk).1
      have q22 := (k22.alloc (.cells #[.string x] 9)).below hb3 (by omega)
      have hl33 := q22.lt
      have HX := Lib.hid (And.intro own3 hb3)
      clear own3 hg3 k22 k22c0 k22c1 k22c2 k22c3 k22c4 k22c5 k22c6 k22f0 k22f1 k22f2 k22f3 k22f4 k22f5 k22f6 own2 hlit hb3
      have HQ22 := Lib.hid q22
      have q22c0 := q22.cell 0 _ rfl
      have q22f0 := q22.frozen 0
      have q22c1 := q22.cell 1 _ rfl
      have q22f1 := q22.frozen 1
      have q22c2 := q22.cell 2 _ rfl
      have q22f2 := q22.frozen 2
      have q22c3 := q22.cell 3 _ rfl
      have q22f3 := q22.frozen 3
      have q22c4 := q22.cell 4 _ rfl
      have q22f4 := q22.frozen 4
      have q22c5 := q22.cell 5 _ rfl
      have q22f5 := q22.frozen 5
      have q22c6 := q22.cell 6 _ rfl
      have q22f6 := q22.frozen 6
      clear q22
      go_wp2
      go_roundw
      case rel =>
        obtain ⟨own3, hb3⟩ := HX.out
        obtain ⟨k0, k1, k2, hbl⟩ := HK2.out
        have hs3 := hb3.size
        simp only [World.size_alloc] at hs3
        have hbx : Below w.heap.size w w3 := (hbl.alloc (by omega) (.cells #[.string x] 9)).trans (hb3.mono (by omega))
        refine ⟨m + 1, _, _, by omega, by go_num, HST.out, hbx.setCell (by show w.heap.size ≤ w.heap.size + 2; omega) _,
          ((k0.alloc _).below hb3 (by omega)).setOther _ _ (by show w.heap.size + 2 ≠ _; omega), ((k1.alloc _).below hb3 (by omega)).setOther _ _ (by show w.heap.size + 2 ≠ _; omega), HQ22.out.setI 5 _, ?_, by rw [World.size_setCell]; omega⟩
        have ho := own3.setOther ⟨w.heap.size + 2, 5, none⟩ (.slice va3 (pre ++ [x]).length vc3) (fun h => by have h9 : w.heap.size + 3 ≤ w.heap.size + 2 := (World.ownsRow.lt own3 _ h).1; omega)
        simp only [List.length_append, List.length_cons, List.length_nil, Nat.zero_add] at ho
        exact ho
      case measure => simp [intOf]; omega
    · have hend : labs row = pre ∧ pre.length = m := by
        by_cases hml : m < row.length
        · exact hls.stop hml (fun h3 => hlab ⟨hml, h3⟩)
        · exact hls.done (by omega)
      have hRB := HR.out
      unfold blockK at hRB
      simp only [List.drop_succ_cons, List.drop_zero, hend.1, hend.2] at hRB
      rw [← hM] at hRB
      obtain ⟨va, vc, rfl, -⟩ := hown.row.len
      have HRB := Lib.hid hRB
      have HS := Lib.hid (show BlkS w wr (lineC (.slice (some ⟨b, off, none⟩) N rc) stop last) #[.bool true, .string t.text, .string ⟨#[]⟩, .string ⟨#[]⟩, .slice none 0 0, .slice va pre.length vc, .slice none 0 0] (.slice va pre.length vc) pre from ⟨hbl, k0, k1, k2, hown, hz⟩)
      clear hend hRB hls HLS HR hbl k0 k1 k2 hown hp0 hr0 hT0 hT1 hp hM
      by_cases hml : m < row.length
      · have hfl : M < (t :: row).length := by simp; omega
        have hfe : (t :: row)[M] = row[m] := by have hM : M = 1 + m := by omega
                                                subst hM; simp [Nat.add_comm 1]
        obtain ⟨bb, ob, he, hlt, c0, c1, c2⟩ := hr.get hfl
        cases he
        have h3 : ((t :: row)[M].kind == 3) = false := by
          rw [beq_eq_false_iff_ne, hfe]
          exact fun h3 => hlab ⟨hml, h3⟩
        have hdec : decide ((M : Int) < (N : Int)) = true := by rw [decide_eq_true_iff]; omega
        have heq : ((M : Int) == (N : Int)) = false := by rw [beq_eq_false_iff_ne]; omega
        have hg0 : (t :: row)[M]? = some (t :: row)[M] := List.getElem?_eq_getElem hfl
        have hdr : (t :: row).drop M = (t :: row)[M] :: (t :: row).drop (M + 1) := List.drop_eq_getElem_cons hfl
        generalize (t :: row)[M] = tk at *
        have HDR := Lib.hid (And.intro hg0 hdr)
        have hSg := sign_tok tk sLc wr
        clear hfe hlab hg0 hdr
        obtain ⟨kk, kt, kp⟩ := tk
        simp only [tokV] at hSg
        simp only at c0 c1 c2 h3
        obtain ⟨hbl, k0, k1, k2, hown, hz9⟩ := HS.out
        have k0c0 := k0.cell 0 _ rfl
        have k0f0 := k0.frozen 0
        have k0c1 := k0.cell 1 _ rfl
        have k0f1 := k0.frozen 1
        have k0c2 := k0.cell 2 _ rfl
        have k0f2 := k0.frozen 2
        clear hbl k0 k1 k2 hown hz9 hr
        go_wp2_with fail
        refine hSg.mono ?_
        clear hSg c0 c1 c2 k0c0 k0c1 k0c2 k0f0 k0f1 k0f2
        rintro _ w2 ⟨rfl, hb2⟩
        have HS2 := Lib.hid (HS.out.step hb2)
        clear hb2 HS hz hlt hk0l hk1l hk2l
        have hRB := HRB.out
        rw [HDR.out.1, HDR.out.2, isS_cons] at hRB
        clear HRB
        by_cases hsg : signT ⟨kk, kt, kp⟩ sLc = false
        · rw [if_pos hsg] at hRB
          rw [hsg]
          have HRR := Lib.hid hRB
          clear hRB
          obtain ⟨hbl, k0, k1, k2, hown, hz9⟩ := HS2.out
          have hL := lacks_any g (.slice oa n oc) (t :: row) (.slice (some ⟨b, off, none⟩) N rc) stop last (M) _ (H0.out.1.below hbl hgw) (H0.out.2.1.below hbl (Nat.le_refl _)) (by simp; omega)
          rw [← HRR.out, show (((M : Nat)) : Int) = (M : Int) by omega] at hL
          have H9 : Hid (lnK R = 0 ∧ lnX R = zeroI) := Lib.hid (by rw [HRR.out]; exact lack_zero _ _ _ _)
          simp only [lineV] at hL
          have hl0 := k0.lt
          have k0c0 := k0.cell 0 _ rfl
          have k0f0 := k0.frozen 0
          have k0c1 := k0.cell 1 _ rfl
          have k0f1 := k0.frozen 1
          have k0c2 := k0.cell 2 _ rfl
          have k0f2 := k0.frozen 2
          clear hbl k0 k1 k2 hown
          go_wp2_with fail
          refine hL.mono ?_
          clear hL k0c0 k0c1 k0c2 k0f0 k0f1 k0f2
          rintro _ w4 ⟨rfl, hs4, p4⟩
          obtain ⟨hbl, k0, k1, k2, hown, -⟩ := HS2.out
          have q4 := hs4.cells k1 (by omega)
          have hl4 := q4.lt
          have HP4 := Lib.hid (And.intro p4 ((Save.of hbl).trans hs4))
          have HQ4 := Lib.hid q4
          have q4c0 := q4.cell 0 _ rfl
          have q4f0 := q4.frozen 0
          have q4c1 := q4.cell 1 _ rfl
          have q4f1 := q4.frozen 1
          have q4c2 := q4.cell 2 _ rfl
          have q4f2 := q4.frozen 2
          have q4c3 := q4.cell 3 _ rfl
          have q4f3 := q4.frozen 3
          have q4c4 := q4.cell 4 _ rfl
          have q4f4 := q4.frozen 4
          have q4c5 := q4.cell 5 _ rfl
          have q4f5 := q4.frozen 5
          have q4c6 := q4.cell 6 _ rfl
          have q4f6 := q4.frozen 6
          clear q4 p4 hs4 hbl k0 k1 k2 hown
          go_wp2_with fail
          have hqq := HQ4.out.put zeroIC 0
          have y0 := hqq.cell 0 (.bool false) rfl
          have y1 := hqq.cell 1 (.string ⟨#[]⟩) rfl
          have y2 := hqq.cell 2 (.string ⟨#[]⟩) rfl
          have y3 := hqq.cell 3 (.string ⟨#[]⟩) rfl
          have y4 := hqq.cell 4 (.slice none 0 0) rfl
          have y5 := hqq.cell 5 (.slice none 0 0) rfl
          have y6 := hqq.cell 6 (.slice none 0 0) rfl
          simp only [setAll] at y0 y1 y2 y3 y4 y5 y6
          refine bodyPost_ret (v := .tuple #[.int .i64 0, .agg #[.bool false, .string ⟨#[]⟩, .string ⟨#[]⟩, .string ⟨#[]⟩, .slice none 0 0, .slice none 0 0, .slice none 0 0]]) (by simp [results, Tryz.results29, go_sem, y0, y1, y2, y3, y4, y5, y6]) rfl ?_
          show KindP g (.slice oa n oc) R w _ (setAll w4 (w.heap.size + 1) 0 zeroIC)
          exact ⟨HP4.out.2.setAllNew (by omega) _, HP4.out.1.setAllOther (by omega), zeroIC, by rw [H9.out.1], (by rw [H9.out.2]; exact ItmIn.zero _ _), rfl⟩
        · rw [if_neg hsg] at hRB
          have hsg2 : signT ⟨kk, kt, kp⟩ sLc = true := by simpa using hsg
          rw [hsg2]
          clear hsg hsg2
          by_cases hdp : 64 < n
          · rw [if_pos hdp] at hRB
            simp only at hRB
            have hdd : decide ((64 : Int) < (n : Int)) = true := by rw [decide_eq_true_iff]; omega
            have HRR := Lib.hid hRB
            obtain ⟨hbl, k0, k1, k2, hown, hz9⟩ := HS2.out
            have hp2 := H0.out.1.below hbl hgw
            obtain ⟨bb, ob, he, hlt, c0, c1, c2⟩ := (H0.out.2.1.below hbl (Nat.le_refl _)).get hfl
            cases he
            have hpos : (t :: row)[M].pos = kp := by
              have := HDR.out.1
              rw [List.getElem?_eq_getElem hfl] at this
              rw [Option.some.inj this]
            rw [hpos] at c2
            have hF := bfail_any g (.slice oa n oc) 0 0 kp 5 _ hp2
            have hl0 := k0.lt
            have hgl := hp2.lt
            have hpc := hp2.cell 0 _ rfl
            have k0c0 := k0.cell 0 _ rfl
            have k0f0 := k0.frozen 0
            have k0c1 := k0.cell 1 _ rfl
            have k0f1 := k0.frozen 1
            have k0c2 := k0.cell 2 _ rfl
            have k0f2 := k0.frozen 2
            clear hRB hbl k0 k1 k2 hown hp2 c0 c1 hpos hdp
            go_wp2_with fail
            refine hF.mono ?_
            clear hF k0c0 k0c1 k0c2 k0f0 k0f1 k0f2 c2 hpc
            rintro _ w4 ⟨rfl, p4, hw4⟩
            obtain ⟨hbl, k0, k1, k2, hown, -⟩ := HS2.out
            have hs4 : Save g w2 w4 := by rw [hw4]; exact ((Save.refl _ _).set _ _).set _ _
            have q4 := hs4.cells k1 (by omega)
            have hl4 := q4.lt
            have p4 : PBox w4 g (.slice oa n oc) (lnE R).1 (lnE R).2 := by rw [HRR.out]; exact p4
            have HP4 := Lib.hid (And.intro p4 ((Save.of hbl).trans hs4))
            have HQ4 := Lib.hid q4
            have H9 : Hid (lnK R = 0 ∧ lnX R = zeroI) := Lib.hid (by rw [HRR.out]; exact ⟨rfl, rfl⟩)
            have q4c0 := q4.cell 0 _ rfl
            have q4f0 := q4.frozen 0
            have q4c1 := q4.cell 1 _ rfl
            have q4f1 := q4.frozen 1
            have q4c2 := q4.cell 2 _ rfl
            have q4f2 := q4.frozen 2
            have q4c3 := q4.cell 3 _ rfl
            have q4f3 := q4.frozen 3
            have q4c4 := q4.cell 4 _ rfl
            have q4f4 := q4.frozen 4
            have q4c5 := q4.cell 5 _ rfl
            have q4f5 := q4.frozen 5
            have q4c6 := q4.cell 6 _ rfl
            have q4f6 := q4.frozen 6
            clear q4 p4 hs4 hbl k0 k1 k2 hown hw4
            go_wp2_with fail
            have hqq := HQ4.out.put zeroIC 0
            have y0 := hqq.cell 0 (.bool false) rfl
            have y1 := hqq.cell 1 (.string ⟨#[]⟩) rfl
            have y2 := hqq.cell 2 (.string ⟨#[]⟩) rfl
            have y3 := hqq.cell 3 (.string ⟨#[]⟩) rfl
            have y4 := hqq.cell 4 (.slice none 0 0) rfl
            have y5 := hqq.cell 5 (.slice none 0 0) rfl
            have y6 := hqq.cell 6 (.slice none 0 0) rfl
            simp only [setAll] at y0 y1 y2 y3 y4 y5 y6
            refine bodyPost_ret (v := .tuple #[.int .i64 0, .agg #[.bool false, .string ⟨#[]⟩, .string ⟨#[]⟩, .string ⟨#[]⟩, .slice none 0 0, .slice none 0 0, .slice none 0 0]]) (by simp [results, Tryz.results29, go_sem, y0, y1, y2, y3, y4, y5, y6]) rfl ?_
            show KindP g (.slice oa n oc) R w _ (setAll w4 (w.heap.size + 1) 0 zeroIC)
            exact ⟨HP4.out.2.setAllNew (by omega) _, HP4.out.1.setAllOther (by omega), zeroIC, by rw [H9.out.1], (by rw [H9.out.2]; exact ItmIn.zero _ _), rfl⟩
          · rw [if_neg hdp] at hRB
            have hdd : decide ((64 : Int) < (n : Int)) = false := by rw [decide_eq_false_iff_not]; omega
            have hpc := (H0.out.1.below HS2.out.1 hgw).cell 0 _ rfl
            have hgl := (H0.out.1.below HS2.out.1 hgw).lt
            rw [← HN.out] at hRB
            by_cases hend : N = M + 1
            · rw [if_pos hend] at hRB
              have heq2 : ((M : Int) + 1 == (N : Int)) = true := by rw [beq_iff_eq]; omega
              have HRR := Lib.hid hRB
              clear hRB hend hdp
              obtain ⟨hbl, k0, k1, k2, hown, hz9⟩ := HS2.out
              have hl0 := k0.lt
              have hl1 := k1.lt
              have hl2x := k2.lt
              have HK := Lib.hid (And.intro k1 (And.intro hown (And.intro hbl (H0.out.1.below hbl hgw))))
              have k0c0 := k0.cell 0 _ rfl
              have k0f0 := k0.frozen 0
              have k0c1 := k0.cell 1 _ rfl
              have k0f1 := k0.frozen 1
              have k0c2 := k0.cell 2 _ rfl
              have k0f2 := k0.frozen 2
              have k1c0 := k1.cell 0 _ rfl
              have k1f0 := k1.frozen 0
              have k1c1 := k1.cell 1 _ rfl
              have k1f1 := k1.frozen 1
              have k1c2 := k1.cell 2 _ rfl
              have k1f2 := k1.frozen 2
              have k1c3 := k1.cell 3 _ rfl
              have k1f3 := k1.frozen 3
              have k1c4 := k1.cell 4 _ rfl
              have k1f4 := k1.frozen 4
              have k1c5 := k1.cell 5 _ rfl
              have k1f5 := k1.frozen 5
              have k1c6 := k1.cell 6 _ rfl
              have k1f6 := k1.frozen 6
              have k2c0 := k2.cell 0 _ rfl
              have k2f0 := k2.frozen 0
              have k2c1 := k2.cell 1 _ rfl
              have k2f1 := k2.frozen 1
              have k2c2 := k2.cell 2 _ rfl
              have k2f2 := k2.frozen 2
              have k2c3 := k2.cell 3 _ rfl
              have k2f3 := k2.frozen 3
              have k2c4 := k2.cell 4 _ rfl
              have k2f4 := k2.frozen 4
              have k2c5 := k2.cell 5 _ rfl
              have k2f5 := k2.frozen 5
              have k2c6 := k2.cell 6 _ rfl
              have k2f6 := k2.frozen 6
              clear hbl k0 k1 k2 hown
              go_wp2_with fail
              go_region
              all_goals
                go_wp2_with fail
                obtain ⟨k1, hown, hbl, hpb⟩ := HK.out
                have hqq := (k1.put [.bool true, .string t.text, .string ⟨#[]⟩, .string ⟨#[]⟩, .slice none 0 0, .slice va pre.length vc, .slice none 0 0] 0).drew
                have y0 := hqq.cell 0 (.bool true) rfl
                have y1 := hqq.cell 1 (.string t.text) rfl
                have y2 := hqq.cell 2 (.string ⟨#[]⟩) rfl
                have y3 := hqq.cell 3 (.string ⟨#[]⟩) rfl
                have y4 := hqq.cell 4 (.slice none 0 0) rfl
                have y5 := hqq.cell 5 (.slice va pre.length vc) rfl
                have y6 := hqq.cell 6 (.slice none 0 0) rfl
                simp only [setAll] at y0 y1 y2 y3 y4 y5 y6
                refine bodyPost_ret (v := .tuple #[.int .i64 3, .agg #[.bool true, .string t.text, .string ⟨#[]⟩, .string ⟨#[]⟩, .slice none 0 0, .slice va pre.length vc, .slice none 0 0]]) (by simp [results, Tryz.results29, go_sem, y0, y1, y2, y3, y4, y5, y6]) rfl ?_
                show KindP g (.slice oa n oc) R w _ (setAll w2 (w.heap.size + 1) 0 [.bool true, .string t.text, .string ⟨#[]⟩, .string ⟨#[]⟩, .slice none 0 0, .slice va pre.length vc, .slice none 0 0]).drew
                rw [HRR.out]
                refine ⟨((Save.of hbl).setAllNew (by omega) _).drew, (hpb.setAllOther (by omega)).drew, [.bool true, .string t.text, .string ⟨#[]⟩, .string ⟨#[]⟩, .slice none 0 0, .slice va pre.length vc, .slice none 0 0], rfl, ?_⟩
                refine ⟨ItmIn.leaf (ExpIn.leaf _ _ _ _) ?_, rfl⟩
                exact row_put (q := w.heap.size + 1) (B := w.heap.size + 3) (by omega) (by omega) hown
            · rw [if_neg hend] at hRB
              have heq2 : ((M : Int) + 1 == (N : Int)) = false := by rw [beq_eq_false_iff_ne]; omega
              have hfl2 : M + 1 < (t :: row).length := by rw [← HN.out]; omega
              obtain ⟨bb2, ob2, he2, hlt2, d0, d1, d2⟩ := (H0.out.2.1.below HS2.out.1 (Nat.le_refl _)).get hfl2
              cases he2
              have hdr2 : row.drop M = (t :: row)[M + 1] :: row.drop (M + 1) := List.drop_eq_getElem_cons hfl2
              rw [hdr2, isS_cons] at hRB
              have hSg := sign_tok (t :: row)[M + 1] sRc w2
              generalize (t :: row)[M + 1] = tk2 at *
              obtain ⟨kk2, kt2, kp2⟩ := tk2
              simp only [tokV] at hSg
              simp only at d0 d1 d2
              obtain ⟨hbl, k0, k1, k2, hown, hz9⟩ := HS2.out
              have hl0 := k0.lt
              have k0c0 := k0.cell 0 _ rfl
              have k0f0 := k0.frozen 0
              have k0c1 := k0.cell 1 _ rfl
              have k0f1 := k0.frozen 1
              have k0c2 := k0.cell 2 _ rfl
              have k0f2 := k0.frozen 2
              have HRB := Lib.hid hRB
              have ha3 : off + (M + 1) * 3 = off + (M + 1) * 3 := rfl
              clear hbl k0 k1 k2 hown hRB hdr2 hdp
              go_wp2_with fail
              refine hSg.mono ?_
              clear hSg d0 d1 d2 k0c0 k0c1 k0c2 k0f0 k0f1 k0f2 hpc hgl
              rintro _ w5 ⟨rfl, hb5⟩
              have HS5 := Lib.hid (HS2.out.step hb5)
              clear hb5 HS2
              have hRB := HRB.out
              clear HRB
              by_cases hsg : signT ⟨kk2, kt2, kp2⟩ sRc = false
              · rw [if_pos hsg] at hRB
                rw [hsg]
                have HRR := Lib.hid hRB
                clear hRB hsg
                obtain ⟨hbl, k0, k1, k2, hown, hz9⟩ := HS5.out
                have hL := lacks_any g (.slice oa n oc) (t :: row) (.slice (some ⟨b, off, none⟩) N rc) stop last ((M + 1)) _ (H0.out.1.below hbl hgw) (H0.out.2.1.below hbl (Nat.le_refl _)) (by simp; omega)
                rw [← HRR.out, show ((((M + 1) : Nat)) : Int) = (M : Int) + 1 by omega] at hL
                have H9 : Hid (lnK R = 0 ∧ lnX R = zeroI) := Lib.hid (by rw [HRR.out]; exact lack_zero _ _ _ _)
                simp only [lineV] at hL
                have hl0 := k0.lt
                have k0c0 := k0.cell 0 _ rfl
                have k0f0 := k0.frozen 0
                have k0c1 := k0.cell 1 _ rfl
                have k0f1 := k0.frozen 1
                have k0c2 := k0.cell 2 _ rfl
                have k0f2 := k0.frozen 2
                clear hbl k0 k1 k2 hown
                go_wp2_with fail
                refine hL.mono ?_
                clear hL k0c0 k0c1 k0c2 k0f0 k0f1 k0f2
                rintro _ w4 ⟨rfl, hs4, p4⟩
                obtain ⟨hbl, k0, k1, k2, hown, -⟩ := HS5.out
                have q4 := hs4.cells k1 (by omega)
                have hl4 := q4.lt
                have HP4 := Lib.hid (And.intro p4 ((Save.of hbl).trans hs4))
                have HQ4 := Lib.hid q4
                have q4c0 := q4.cell 0 _ rfl
                have q4f0 := q4.frozen 0
                have q4c1 := q4.cell 1 _ rfl
                have q4f1 := q4.frozen 1
                have q4c2 := q4.cell 2 _ rfl
                have q4f2 := q4.frozen 2
                have q4c3 := q4.cell 3 _ rfl
                have q4f3 := q4.frozen 3
                have q4c4 := q4.cell 4 _ rfl
                have q4f4 := q4.frozen 4
                have q4c5 := q4.cell 5 _ rfl
                have q4f5 := q4.frozen 5
                have q4c6 := q4.cell 6 _ rfl
                have q4f6 := q4.frozen 6
                clear q4 p4 hs4 hbl k0 k1 k2 hown
                go_wp2_with fail
                have hqq := HQ4.out.put zeroIC 0
                have y0 := hqq.cell 0 (.bool false) rfl
                have y1 := hqq.cell 1 (.string ⟨#[]⟩) rfl
                have y2 := hqq.cell 2 (.string ⟨#[]⟩) rfl
                have y3 := hqq.cell 3 (.string ⟨#[]⟩) rfl
                have y4 := hqq.cell 4 (.slice none 0 0) rfl
                have y5 := hqq.cell 5 (.slice none 0 0) rfl
                have y6 := hqq.cell 6 (.slice none 0 0) rfl
                simp only [setAll] at y0 y1 y2 y3 y4 y5 y6
                refine bodyPost_ret (v := .tuple #[.int .i64 0, .agg #[.bool false, .string ⟨#[]⟩, .string ⟨#[]⟩, .string ⟨#[]⟩, .slice none 0 0, .slice none 0 0, .slice none 0 0]]) (by simp [results, Tryz.results29, go_sem, y0, y1, y2, y3, y4, y5, y6]) rfl ?_
                show KindP g (.slice oa n oc) R w _ (setAll w4 (w.heap.size + 1) 0 zeroIC)
                exact ⟨HP4.out.2.setAllNew (by omega) _, HP4.out.1.setAllOther (by omega), zeroIC, by rw [H9.out.1], (by rw [H9.out.2]; exact ItmIn.zero _ _), rfl⟩
              · rw [if_neg hsg] at hRB
                have hsg2 : signT ⟨kk2, kt2, kp2⟩ sRc = true := by simpa using hsg
                rw [hsg2]
                clear hsg hsg2
                by_cases hmore : M + 2 < N
                · rw [if_pos hmore] at hRB
                  have HRR := Lib.hid hRB
                  have hdm : decide ((M : Int) + 1 + 1 < (N : Int)) = true := by rw [decide_eq_true_iff]; omega
                  clear hRB
                  obtain ⟨hbl, k0, k1, k2, hown, hz9⟩ := HS5.out
                  have hL := lacks_any g (.slice oa n oc) (t :: row) (.slice (some ⟨b, off, none⟩) N rc) stop last ((M + 2)) _ (H0.out.1.below hbl hgw) (H0.out.2.1.below hbl (Nat.le_refl _)) (by simp; omega)
                  rw [← HRR.out, show ((((M + 2) : Nat)) : Int) = (M : Int) + 1 + 1 by omega] at hL
                  have H9 : Hid (lnK R = 0 ∧ lnX R = zeroI) := Lib.hid (by rw [HRR.out]; exact lack_zero _ _ _ _)
                  simp only [lineV] at hL
                  have hl0 := k0.lt
                  have k0c0 := k0.cell 0 _ rfl
                  have k0f0 := k0.frozen 0
                  have k0c1 := k0.cell 1 _ rfl
                  have k0f1 := k0.frozen 1
                  have k0c2 := k0.cell 2 _ rfl
                  have k0f2 := k0.frozen 2
                  clear hbl k0 k1 k2 hown
                  go_wp2_with fail
                  refine hL.mono ?_
                  clear hL k0c0 k0c1 k0c2 k0f0 k0f1 k0f2
                  rintro _ w4 ⟨rfl, hs4, p4⟩
                  obtain ⟨hbl, k0, k1, k2, hown, -⟩ := HS5.out
                  have q4 := hs4.cells k1 (by omega)
                  have hl4 := q4.lt
                  have HP4 := Lib.hid (And.intro p4 ((Save.of hbl).trans hs4))
                  have HQ4 := Lib.hid q4
                  have q4c0 := q4.cell 0 _ rfl
                  have q4f0 := q4.frozen 0
                  have q4c1 := q4.cell 1 _ rfl
                  have q4f1 := q4.frozen 1
                  have q4c2 := q4.cell 2 _ rfl
                  have q4f2 := q4.frozen 2
                  have q4c3 := q4.cell 3 _ rfl
                  have q4f3 := q4.frozen 3
                  have q4c4 := q4.cell 4 _ rfl
                  have q4f4 := q4.frozen 4
                  have q4c5 := q4.cell 5 _ rfl
                  have q4f5 := q4.frozen 5
                  have q4c6 := q4.cell 6 _ rfl
                  have q4f6 := q4.frozen 6
                  clear q4 p4 hs4 hbl k0 k1 k2 hown
                  go_wp2_with fail
                  have hqq := HQ4.out.put zeroIC 0
                  have y0 := hqq.cell 0 (.bool false) rfl
                  have y1 := hqq.cell 1 (.string ⟨#[]⟩) rfl
                  have y2 := hqq.cell 2 (.string ⟨#[]⟩) rfl
                  have y3 := hqq.cell 3 (.string ⟨#[]⟩) rfl
                  have y4 := hqq.cell 4 (.slice none 0 0) rfl
                  have y5 := hqq.cell 5 (.slice none 0 0) rfl
                  have y6 := hqq.cell 6 (.slice none 0 0) rfl
                  simp only [setAll] at y0 y1 y2 y3 y4 y5 y6
                  refine bodyPost_ret (v := .tuple #[.int .i64 0, .agg #[.bool false, .string ⟨#[]⟩, .string ⟨#[]⟩, .string ⟨#[]⟩, .slice none 0 0, .slice none 0 0, .slice none 0 0]]) (by simp [results, Tryz.results29, go_sem, y0, y1, y2, y3, y4, y5, y6]) rfl ?_
                  show KindP g (.slice oa n oc) R w _ (setAll w4 (w.heap.size + 1) 0 zeroIC)
                  exact ⟨HP4.out.2.setAllNew (by omega) _, HP4.out.1.setAllOther (by omega), zeroIC, by rw [H9.out.1], (by rw [H9.out.2]; exact ItmIn.zero _ _), rfl⟩
                · rw [if_neg hmore] at hRB
                  have HRR := Lib.hid hRB
                  have hdm : decide ((M : Int) + 1 + 1 < (N : Int)) = false := by rw [decide_eq_false_iff_not]; omega
                  clear hRB
                  obtain ⟨hbl, k0, k1, k2, hown, hz9⟩ := HS5.out
                  have hl0 := k0.lt
                  have hl1 := k1.lt
                  have hl2x := k2.lt
                  have HK := Lib.hid (And.intro k1 (And.intro hown (And.intro hbl (H0.out.1.below hbl hgw))))
                  have k0c0 := k0.cell 0 _ rfl
                  have k0f0 := k0.frozen 0
                  have k0c1 := k0.cell 1 _ rfl
                  have k0f1 := k0.frozen 1
                  have k0c2 := k0.cell 2 _ rfl
                  have k0f2 := k0.frozen 2
                  have k1c0 := k1.cell 0 _ rfl
                  have k1f0 := k1.frozen 0
                  have k1c1 := k1.cell 1 _ rfl
                  have k1f1 := k1.frozen 1
                  have k1c2 := k1.cell 2 _ rfl
                  have k1f2 := k1.frozen 2
                  have k1c3 := k1.cell 3 _ rfl
                  have k1f3 := k1.frozen 3
                  have k1c4 := k1.cell 4 _ rfl
                  have k1f4 := k1.frozen 4
                  have k1c5 := k1.cell 5 _ rfl
                  have k1f5 := k1.frozen 5
                  have k1c6 := k1.cell 6 _ rfl
                  have k1f6 := k1.frozen 6
                  have k2c0 := k2.cell 0 _ rfl
                  have k2f0 := k2.frozen 0
                  have k2c1 := k2.cell 1 _ rfl
                  have k2f1 := k2.frozen 1
                  have k2c2 := k2.cell 2 _ rfl
                  have k2f2 := k2.frozen 2
                  have k2c3 := k2.cell 3 _ rfl
                  have k2f3 := k2.frozen 3
                  have k2c4 := k2.cell 4 _ rfl
                  have k2f4 := k2.frozen 4
                  have k2c5 := k2.cell 5 _ rfl
                  have k2f5 := k2.frozen 5
                  have k2c6 := k2.cell 6 _ rfl
                  have k2f6 := k2.frozen 6
                  clear hbl k0 k1 k2 hown
                  go_wp2_with fail
                  go_region
                  all_goals
                    go_wp2_with fail
                    obtain ⟨k1, hown, hbl, hpb⟩ := HK.out
                    have hqq := (k1.put [.bool true, .string t.text, .string ⟨#[]⟩, .string ⟨#[]⟩, .slice none 0 0, .slice va pre.length vc, .slice none 0 0] 0).drew
                    have y0 := hqq.cell 0 (.bool true) rfl
                    have y1 := hqq.cell 1 (.string t.text) rfl
                    have y2 := hqq.cell 2 (.string ⟨#[]⟩) rfl
                    have y3 := hqq.cell 3 (.string ⟨#[]⟩) rfl
                    have y4 := hqq.cell 4 (.slice none 0 0) rfl
                    have y5 := hqq.cell 5 (.slice va pre.length vc) rfl
                    have y6 := hqq.cell 6 (.slice none 0 0) rfl
                    simp only [setAll] at y0 y1 y2 y3 y4 y5 y6
                    refine bodyPost_ret (v := .tuple #[.int .i64 4, .agg #[.bool true, .string t.text, .string ⟨#[]⟩, .string ⟨#[]⟩, .slice none 0 0, .slice va pre.length vc, .slice none 0 0]]) (by simp [results, Tryz.results29, go_sem, y0, y1, y2, y3, y4, y5, y6]) rfl ?_
                    show KindP g (.slice oa n oc) R w _ (setAll w5 (w.heap.size + 1) 0 [.bool true, .string t.text, .string ⟨#[]⟩, .string ⟨#[]⟩, .slice none 0 0, .slice va pre.length vc, .slice none 0 0]).drew
                    rw [HRR.out]
                    refine ⟨((Save.of hbl).setAllNew (by omega) _).drew, (hpb.setAllOther (by omega)).drew, [.bool true, .string t.text, .string ⟨#[]⟩, .string ⟨#[]⟩, .slice none 0 0, .slice va pre.length vc, .slice none 0 0], rfl, ?_⟩
                    refine ⟨ItmIn.leaf (ExpIn.leaf _ _ _ _) ?_, rfl⟩
                    exact row_put (q := w.heap.size + 1) (B := w.heap.size + 3) (by omega) (by omega) hown
      · have hdec : decide ((M : Int) < (N : Int)) = false := by rw [decide_eq_false_iff_not]; omega
        have heq : ((M : Int) == (N : Int)) = true := by rw [beq_iff_eq]; omega
        have hRB := HRB.out
        rw [List.drop_eq_nil_of_le (by simp; omega), if_pos (by rfl)] at hRB
        have HRR := Lib.hid hRB
        clear hRB HRB hlab hr
        obtain ⟨hbl, k0, k1, k2, hown, hz9⟩ := HS.out
        have hL := lacks_any g (.slice oa n oc) (t :: row) (.slice (some ⟨b, off, none⟩) N rc) stop last (M) _ (H0.out.1.below hbl hgw) (H0.out.2.1.below hbl (Nat.le_refl _)) (by simp; omega)
        rw [← HRR.out, show (((M : Nat)) : Int) = (M : Int) by omega] at hL
        have H9 : Hid (lnK R = 0 ∧ lnX R = zeroI) := Lib.hid (by rw [HRR.out]; exact lack_zero _ _ _ _)
        simp only [lineV] at hL
        have hl0 := k0.lt
        have k0c0 := k0.cell 0 _ rfl
        have k0f0 := k0.frozen 0
        have k0c1 := k0.cell 1 _ rfl
        have k0f1 := k0.frozen 1
        have k0c2 := k0.cell 2 _ rfl
        have k0f2 := k0.frozen 2
        clear hbl k0 k1 k2 hown
        go_wp2_with fail
        refine hL.mono ?_
        clear hL k0c0 k0c1 k0c2 k0f0 k0f1 k0f2
        rintro _ w4 ⟨rfl, hs4, p4⟩
        obtain ⟨hbl, k0, k1, k2, hown, -⟩ := HS.out
        have q4 := hs4.cells k1 (by omega)
        have hl4 := q4.lt
        have HP4 := Lib.hid (And.intro p4 ((Save.of hbl).trans hs4))
        have HQ4 := Lib.hid q4
        have q4c0 := q4.cell 0 _ rfl
        have q4f0 := q4.frozen 0
        have q4c1 := q4.cell 1 _ rfl
        have q4f1 := q4.frozen 1
        have q4c2 := q4.cell 2 _ rfl
        have q4f2 := q4.frozen 2
        have q4c3 := q4.cell 3 _ rfl
        have q4f3 := q4.frozen 3
        have q4c4 := q4.cell 4 _ rfl
        have q4f4 := q4.frozen 4
        have q4c5 := q4.cell 5 _ rfl
        have q4f5 := q4.frozen 5
        have q4c6 := q4.cell 6 _ rfl
        have q4f6 := q4.frozen 6
        clear q4 p4 hs4 hbl k0 k1 k2 hown
        go_wp2_with fail
        have hqq := HQ4.out.put zeroIC 0
        have y0 := hqq.cell 0 (.bool false) rfl
        have y1 := hqq.cell 1 (.string ⟨#[]⟩) rfl
        have y2 := hqq.cell 2 (.string ⟨#[]⟩) rfl
        have y3 := hqq.cell 3 (.string ⟨#[]⟩) rfl
        have y4 := hqq.cell 4 (.slice none 0 0) rfl
        have y5 := hqq.cell 5 (.slice none 0 0) rfl
        have y6 := hqq.cell 6 (.slice none 0 0) rfl
        simp only [setAll] at y0 y1 y2 y3 y4 y5 y6
        refine bodyPost_ret (v := .tuple #[.int .i64 0, .agg #[.bool false, .string ⟨#[]⟩, .string ⟨#[]⟩, .string ⟨#[]⟩, .slice none 0 0, .slice none 0 0, .slice none 0 0]]) (by simp [results, Tryz.results29, go_sem, y0, y1, y2, y3, y4, y5, y6]) rfl ?_
        show KindP g (.slice oa n oc) R w _ (setAll w4 (w.heap.size + 1) 0 zeroIC)
        exact ⟨HP4.out.2.setAllNew (by omega) _, HP4.out.1.setAllOther (by omega), zeroIC, by rw [H9.out.1], (by rw [H9.out.2]; exact ItmIn.zero _ _), rfl⟩
end Go.Proofs.YthmmgpbojbjihaaGreatDoor

/- What a line is (layer 13). -/
namespace Go.Proofs.YthmmgpbojbjihaaGreatDoor
open Go.RowKit Go.Tab

/-- The boxes of a line whose kind is asked. -/
def KdS (w W : World) (line : Array Value) : Prop := Below w.heap.size w W ∧ Cells W w.heap.size line 48 ∧ Cells W (w.heap.size + 1) zeroIC.toArray 37 ∧ w.heap.size + 2 ≤ W.heap.size
theorem KdS.step {w W W' : World} {line : Array Value} (h : KdS w W line) (hb : Below W.heap.size W W') : KdS w W' line :=
  ⟨h.1.trans (hb.mono h.1.size), h.2.1.below hb h.2.1.lt, h.2.2.1.below hb h.2.2.1.lt, Nat.le_trans h.2.2.2 hb.size⟩
theorem itm_put {w3 : World} {B n q : Nat} {x : Itm} {cs vals : List Value} (hq : q < B) (hn : n ≤ B) (hx : ItmIn (fun b => B ≤ b) w3 x cs) : ItmIn (fun b => n ≤ b) (setAll w3 q 0 vals) x cs :=
  ItmIn.move (P := fun b => B ≤ b) (Q := fun b => n ≤ b) (w := w3) (w' := (setAll w3 q 0 vals)) (Nat.le_of_eq (setAll_size q vals 0 w3).symm) (fun b (hb : B ≤ b) _ => setAll_other q vals 0 w3 b (by omega)) (fun b (hb : B ≤ b) _ => Nat.le_trans hn hb) x cs hx
/-- All seven cells told. -/
theorem ItmIn.shape7 {P : Nat → Prop} {w : World} {t : Itm} {cs : List Value} (h : ItmIn P w t cs) : ∃ n vo vt va vn vc la ln lc ia k cap, cs = [.bool t.block, .string n, .string vo, .string vt, .slice va vn vc, .slice la ln lc, .slice ia k cap] := by
  cases t
  unfold ItmIn at h
  obtain ⟨_, _, _, _, _, _, rfl, hv, hl, -⟩ := h.open
  obtain ⟨va, vn, vc, rfl⟩ := exp_shape hv
  obtain ⟨la, lc, rfl, -⟩ := hl.1.len
  exact ⟨_, _, _, _, _, _, _, _, _, _, _, _, rfl⟩
set_option maxHeartbeats 4000000 in
set_option maxRecDepth 100000 in
theorem kind_nil (g : Nat) (oa : Option Addr) (n oc : Nat)  (lv : Value) (stop : Int) (last : Bool) (w : World) (h : PBox w g (.slice oa n oc) 0 0) (hr : ToksAt w lv []) (ho : ∀ b, lv.ownBlock = some b → b < w.heap.size) (hT : LexT w) (hn : ([] : List Tok).length ≤ 900000) (hsh : ∀ t ∈ ([] : List Tok), t.text.size ≤ 1000000) (hq : ∀ t ∈ ([] : List Tok), t.kind = 3 → quoX t.text ≠ none) :
    Calls Tryz.prog 21 #[.pointer (some ⟨g, 0, none⟩), lineV lv stop last] w (KindP g (.slice oa n oc) (lineK n [] stop last) w) := by
  obtain ⟨ra, rc, rfl, hl1, hl2, -⟩ := hr.len
  obtain ⟨N, hN⟩ : ∃ N, N = ([] : List Tok).length := ⟨_, rfl⟩
  have hNle : N ≤ ([] : List Tok).length ∧ ([] : List Tok).length ≤ N := by omega
  rw [← hN] at hr hl1 ho ⊢
  unfold maxLen at hl2
  have HN := Lib.hid hN
  clear hN
  obtain ⟨R, hR⟩ : ∃ R, R = lineK n [] stop last := ⟨_, rfl⟩
  have HR := Lib.hid hR
  rw [← hR]
  clear hR
  have hgw := h.lt
  have hbA : Below w.heap.size w ((w.alloc (.cells (lineC (.slice ra N rc) stop last) 48)).alloc (.cells zeroIC.toArray 37)) := ((Below.refl _ w).alloc (Nat.le_refl _) _).alloc (by simp) _
  have kA := (Cells.new w (lineC (.slice ra N rc) stop last) 48).alloc (.cells zeroIC.toArray 37)
  have kB := Cells.new (w.alloc (.cells (lineC (.slice ra N rc) stop last) 48)) zeroIC.toArray 37
  simp only [World.size_alloc] at kB
  have hzA : ((w.alloc (.cells (lineC (.slice ra N rc) stop last) 48)).alloc (.cells zeroIC.toArray 37)).heap.size = w.heap.size + 2 := by simp
  have HS := Lib.hid (show KdS w ((w.alloc (.cells (lineC (.slice ra N rc) stop last) 48)).alloc (.cells zeroIC.toArray 37)) (lineC (.slice ra N rc) stop last) from ⟨hbA, kA, kB, by rw [hzA]; exact Nat.le_refl _⟩)
  have H0 := Lib.hid (And.intro h (And.intro hr (And.intro ho hT)))
  clear hbA kA kB hzA h hr ho hT
  have hNz : ((N : Int) == 0) = true := by rw [beq_iff_eq]; simp at hNle; omega
  have HRR : Hid (R = .empty) := HR
  have H9 : Hid (lnK R = 1 ∧ lnX R = zeroI) := Lib.hid (by rw [HRR.out]; exact ⟨rfl, rfl⟩)
  go_enter Tryz.func21, Tryz.ntmps21
  go_wp2_with fail
  obtain ⟨hbl, k0, k1, hz9⟩ := HS.out
  have HQ4 := Lib.hid k1
  have p4 : PBox ((w.alloc (.cells (lineC (.slice ra N rc) stop last) 48)).alloc (.cells zeroIC.toArray 37)) g (.slice oa n oc) (lnE R).1 (lnE R).2 := by rw [HRR.out]; exact H0.out.1.below hbl hgw
  have HP4 := Lib.hid (And.intro p4 (Save.of (g := g) hbl))
  have y0 := k1.cell 0 (.bool false) rfl
  have y1 := k1.cell 1 (.string ⟨#[]⟩) rfl
  have y2 := k1.cell 2 (.string ⟨#[]⟩) rfl
  have y3 := k1.cell 3 (.string ⟨#[]⟩) rfl
  have y4 := k1.cell 4 (.slice none 0 0) rfl
  have y5 := k1.cell 5 (.slice none 0 0) rfl
  have y6 := k1.cell 6 (.slice none 0 0) rfl
  refine bodyPost_ret (v := .tuple #[.int .i64 1, .agg #[.bool false, .string ⟨#[]⟩, .string ⟨#[]⟩, .string ⟨#[]⟩, .slice none 0 0, .slice none 0 0, .slice none 0 0]]) (by simp [results, Tryz.results21, go_sem, y0, y1, y2, y3, y4, y5, y6]) rfl ?_
  exact ⟨HP4.out.2, HP4.out.1, zeroIC, by rw [H9.out.1], (by rw [H9.out.2]; exact ItmIn.zero _ _), rfl⟩
end Go.Proofs.YthmmgpbojbjihaaGreatDoor
