/- Texts of this claim, one behind the other: ExR, Shf, LxA, LxB, NuU, NuS, NuT. -/
import Derived.Test.YtjlikcfabekhlaaDoorMga
import Derived.Test.YtjlikcfabekhlaaDoorMgb
import Derived.Test.YtjlikcfabekhlaaDoorMgc
import Derived.Test.YtjlikcfabekhlaaDoorMge
import Derived.Shelf.Strings.Builder1
import Derived.Shelf.Strings.Trim
import Derived.Shelf.Small.Utf8
import Derived.Shelf.Small.Strs
import Derived.Shelf.Small.Wraps
import Derived.Shelf.LaysM
import Derived.Shelf.Strconv.Clone
import Derived.Shelf.Strings.Search1
import Derived.Shelf.Strings.Search2
import Derived.Shelf.Strings.Search3
import Derived.Shelf.Strings.Shaped
import Derived.Shelf.Strings.Prefix
import Derived.Shelf.Strings.Runes
import Derived.Shelf.Strings.IndexAny
import Derived.Shelf.Strings.AsciiSet
import Derived.Shelf.Strings.IndexAnyAll
import Derived.Shelf.Unicode.DecodeSlow
import Derived.Shelf.Unicode.DecodeAny
import Derived.Shelf.Unicode.DecodeLast
import Derived.Test.YtjlikcfabekhlaaDoorProg
import Derived.Lib.IndexAny
import Derived.Lib.Bytealg
import Derived.Lib.LaidTab
import Derived.IntWalk
set_option linter.unusedSimpArgs false
set_option linter.unusedVariables false

/- Two expressions held against each other, on both sides (layer 12). -/
namespace Go.Proofs.YtjlikcfabekhlaaDoor
open Go.RowKit Go.Tab

/-- Kids, as they are found in an expression. -/
def KidsE (w : World) (a : Option Addr) (kids : List Exp) : Prop := ∀ (x : Addr), a = some x → kids ≠ [] → x.spot = none ∧ x.block < w.heap.size ∧ ExpsAt w x.block x.off kids
theorem KidsE.below {w w' : World} {a : Option Addr} {kids : List Exp} (h : KidsE w a kids) (hb : Below w.heap.size w w') : KidsE w' a kids := fun x hx hne => by
  obtain ⟨g1, g2, g3⟩ := h x hx hne
  exact ⟨g1, Nat.lt_of_lt_of_le g2 hb.size, ExpsAt.below hb g2 kids _ g3⟩
theorem ExpAt.open {w : World} {o t : ByteArray} {kids : List Exp} {cs : List Value} (h : ExpAt w (.mk o t kids) cs) : ∃ a cap, cs = [.string o, .string t, .slice a kids.length cap] ∧ kids.length ≤ cap ∧ cap ≤ maxLen ∧ (a = none → cap = 0) ∧ KidsE w a kids := by
  simp only [ExpAt] at h
  exact h
abbrev vX (cs : List Value) : Value := .agg cs.toArray
set_option maxHeartbeats 4000000 in
set_option maxRecDepth 100000 in
theorem rSame_step (n : Nat) (IH : ∀ (s t : Exp), s.bulk ≤ n → ∀ (w : World) (cs ds : List Value), ExpAt w s cs → ExpAt w t ds → Calls Tryd.prog 9 #[vX cs, vX ds] w (SameP (s = t) w))
    (o1 t1 : ByteArray) (kids1 : List Exp) (o2 t2 : ByteArray) (kids2 : List Exp) (hn : (Exp.mk o1 t1 kids1).bulk ≤ n + 1) (p : Prop) (hp : p ↔ Exp.mk o1 t1 kids1 = Exp.mk o2 t2 kids2)
    (w : World) (cs ds : List Value) (hv : ExpAt w (.mk o1 t1 kids1) cs) (hv2 : ExpAt w (.mk o2 t2 kids2) ds) : Calls Tryd.prog 9 #[vX cs, vX ds] w (SameP p w) := by
  have hkb : bulkX kids1 ≤ n := by simp only [Exp.bulk] at hn; omega
  obtain ⟨a, cap, rfl, hl, hm, hnil, hx⟩ := hv.open
  obtain ⟨a2, cap2, rfl, hl2, hm2, hnil2, hx2⟩ := hv2.open
  clear hv hv2 hn
  unfold maxLen at hm hm2
  simp only [vX]
  have hb0 : Below w.heap.size w ((w.alloc (.cells #[.string o1, .string t1, .slice a kids1.length cap] 26)).alloc (.cells #[.string o2, .string t2, .slice a2 kids2.length cap2] 26)) := ((Below.refl _ w).alloc (Nat.le_refl _) _).alloc (by simp) _
  by_cases ho : o1 = o2
  · subst ho
    by_cases ht : t1 = t2
    · subst ht
      by_cases hlen : kids1.length = kids2.length
      · have hq : ((kids1.length : Int) != (kids2.length : Int)) = false := by simp [hlen]
        have HP := Lib.hid hp
        have HL := Lib.hid hlen
        have HX := Lib.hid hx
        have HX2 := Lib.hid hx2
        have HIH := Lib.hid IH
        obtain ⟨hc0, hc1, hz0, hz1⟩ := two_new (Below.refl ((w.alloc (.cells #[.string o1, .string t1, .slice a kids1.length cap] 26)).alloc (.cells #[.string o1, .string t1, .slice a2 kids2.length cap2] 26)).heap.size ((w.alloc (.cells #[.string o1, .string t1, .slice a kids1.length cap] 26)).alloc (.cells #[.string o1, .string t1, .slice a2 kids2.length cap2] 26)))
        have HC0 := Lib.hid hc0
        have HC1 := Lib.hid hc1
        have HB := Lib.hid hb0
        clear hp hlen hx hx2 IH hc0 hc1 hb0
        go_enter Tryd.func9, Tryd.ntmps9
        go_wp2_with fail
        generalize (w.alloc (.cells #[.string o1, .string t1, .slice a kids1.length cap] 26)).alloc (.cells #[.string o1, .string t1, .slice a2 kids2.length cap2] 26) = w2 at *
        go_loopw [5] (fun i wr => ∃ k : Nat, k ≤ kids1.length ∧ i = .int .i64 (k : Int) ∧ (∀ j (h1 : j < kids1.length) (h2 : j < kids2.length), j < k → kids1[j] = kids2[j]) ∧ Below w2.heap.size w2 wr) (fun i _ => kids1.length - (intOf i).toNat)
        case atStart => exact ⟨0, Nat.zero_le _, rfl, fun j _ _ h => by omega, Below.refl _ _⟩
        case round =>
          obtain ⟨k, hk, rfl, hall, hbl⟩ := hrel
          have hc0 := HC0.out.below hbl hz0
          have hc1 := HC1.out.below hbl hz1
          have hy0 := hc0.lt
          have hy1 := hc1.lt
          have HBL := Lib.hid hbl
          have HA := Lib.hid hall
          clear hall
          by_cases hkl : k < kids1.length
          · have hkl2 : k < kids2.length := by have := HL.out; omega
            have hne : kids1 ≠ [] := by intro h0; rw [h0] at hkl; simp at hkl
            have hne2 : kids2 ≠ [] := by intro h0; rw [h0] at hkl2; simp at hkl2
            cases a with
            | none => have := hnil rfl; omega
            | some x =>
            cases a2 with
            | none => have := hnil2 rfl; omega
            | some x2 =>
            obtain ⟨bb, off, sp⟩ := x
            obtain ⟨bb2, off2, sp2⟩ := x2
            obtain ⟨rfl, hlt, hkids⟩ := KidsE.below (KidsE.below HX.out HB.out) hbl _ rfl hne
            obtain ⟨rfl, hlt2, hkids2⟩ := KidsE.below (KidsE.below HX2.out HB.out) hbl _ rfl hne2
            simp only at hlt hkids hlt2 hkids2
            obtain ⟨kc0, hkc, hkv⟩ := ExpsAt.get hkids k hkl
            obtain ⟨kop, ktext, ksa, ksn, ksc, rfl, m0, m1, m2⟩ := exp_at hkv hkc
            obtain ⟨jc0, hjc, hjv⟩ := ExpsAt.get hkids2 k hkl2
            obtain ⟨jop, jtext, jsa, jsn, jsc, rfl, n0, n1, n2⟩ := exp_at hjv hjc
            have hIH := HIH.out kids1[k] kids2[k] (by have := bulkX_kid hkl; omega)
            have HD : Hid (kids1[k] = kids2[k] → ∀ j (h1 : j < kids1.length) (h2 : j < kids2.length), j < k + 1 → kids1[j] = kids2[j]) := Lib.hid (fun heq j h1 h2 h => by
                by_cases hjk : j = k
                · subst hjk; exact heq
                · exact HA.out j h1 h2 (by omega))
            have HN : Hid (¬ kids1[k] = kids2[k] → kids1 ≠ kids2) := Lib.hid (fun h => rows_ne hkl hkl2 h)
            clear HA hkc hjc
            generalize kids1[k] = kid at *
            generalize kids2[k] = jid at *
            obtain ⟨b, hb⟩ := some_bool (kid = jid)
            have hcall := fun (x : Under wr) => Under.call x (SameP.fix hb (hIH x.w _ _ (hkv.under x) (hjv.under x)))
            clear hIH
            have HBB := Lib.hid hb
            clear hb
            have p0 := fun x : Under wr => (x.below.cell (p := ⟨w.heap.size, 2, none⟩) hy0).trans (hc0.cell 2 _ rfl)
            have p1 := fun x : Under wr => (x.below.cell (p := ⟨w.heap.size + 1, 2, none⟩) hy1).trans (hc1.cell 2 _ rfl)
            have M0 := fun x : Under wr => (x.below.cell (by exact hlt)).trans m0
            have M1 := fun x : Under wr => (x.below.cell (by exact hlt)).trans m1
            have M2 := fun x : Under wr => (x.below.cell (by exact hlt)).trans m2
            have O0 := fun x : Under wr => (x.below.cell (by exact hlt2)).trans n0
            have O1 := fun x : Under wr => (x.below.cell (by exact hlt2)).trans n1
            have O2 := fun x : Under wr => (x.below.cell (by exact hlt2)).trans n2
            clear m0 m1 m2 n0 n1 n2
            have hc0c0 := hc0.cell 0 _ rfl
            have hc0f0 := hc0.frozen 0
            have hc0c1 := hc0.cell 1 _ rfl
            have hc0f1 := hc0.frozen 1
            have hc0c2 := hc0.cell 2 _ rfl
            have hc0f2 := hc0.frozen 2
            have hc1c0 := hc1.cell 0 _ rfl
            have hc1f0 := hc1.frozen 0
            have hc1c1 := hc1.cell 1 _ rfl
            have hc1f1 := hc1.frozen 1
            have hc1c2 := hc1.cell 2 _ rfl
            have hc1f2 := hc1.frozen 2
            simp only [vX] at hcall
            go_wp2_with fail
            refine wp_region_under wr (by kernel_rfl) (by kernel_rfl) (Below.refl _ _) ?_
            repeat (go_big_quiet_step ((go_at_call 9; exact hcall _)))
            refine wpQuiet_nil ?_
            rintro _ ⟨x, rfl⟩
            have hb3 := HBL.out.trans (x.below.mono HBL.out.size)
            have HB3 := Lib.hid hb3
            clear M0 M1 M2 O0 O1 O2 p0 p1 hcall
            cases b
            · have HY := Lib.hid (HN.out (fun h => by have := HBB.out.2 h; cases this))
              clear HBB HN HD
              go_wp2_with fail
              go_ret
              refine ⟨⟨false, rfl, no_iff (fun h => ?_)⟩, HB.out.trans (HB3.out.mono HB.out.size)⟩
              have h2 := HP.out.1 h
              simp only [Exp.mk.injEq] at h2
              exact HY.out h2.2.2
            · have HY := Lib.hid (HD.out (HBB.out.1 rfl))
              clear HBB HN HD
              go_wp2_with fail
              go_roundw
              case rel => exact ⟨k + 1, by omega, by go_num, HY.out, HB3.out⟩
              case measure => simp [intOf]; omega
          · obtain rfl : k = kids1.length := by omega
            have hR := Lib.hid (rows_eq HL.out (fun j h1 h2 => HA.out j h1 h2 h1))
            clear HA
            have hc0c0 := hc0.cell 0 _ rfl
            have hc0f0 := hc0.frozen 0
            have hc0c1 := hc0.cell 1 _ rfl
            have hc0f1 := hc0.frozen 1
            have hc0c2 := hc0.cell 2 _ rfl
            have hc0f2 := hc0.frozen 2
            have hc1c0 := hc1.cell 0 _ rfl
            have hc1f0 := hc1.frozen 0
            have hc1c1 := hc1.cell 1 _ rfl
            have hc1f1 := hc1.frozen 1
            have hc1c2 := hc1.cell 2 _ rfl
            have hc1f2 := hc1.frozen 2
            go_wp2_with fail
            go_ret
            refine ⟨⟨true, rfl, yes_iff (HP.out.2 ?_)⟩, HB.out.trans (HBL.out.mono HB.out.size)⟩
            rw [hR.out]
      · have hq : ((kids1.length : Int) != (kids2.length : Int)) = true := by rw [bne_iff_ne]; omega
        have HN : Hid (¬ p) := Lib.hid (fun h => by have := hp.1 h; simp only [Exp.mk.injEq] at this; exact hlen (by rw [this.2.2]))
        have HB := Lib.hid hb0
        clear hlen hp hb0
        go_enter Tryd.func9, Tryd.ntmps9
        go_wp2
        go_ret
        exact ⟨⟨false, rfl, no_iff (fun h => (HN.out h).elim)⟩, HB.out⟩
    · have hq := str_ne ht
      have HN : Hid (¬ p) := Lib.hid (fun h => by have := hp.1 h; simp only [Exp.mk.injEq] at this; exact ht this.2.1)
      have HB := Lib.hid hb0
      clear ht hp hb0
      go_enter Tryd.func9, Tryd.ntmps9
      go_wp2
      go_ret
      exact ⟨⟨false, rfl, no_iff (fun h => (HN.out h).elim)⟩, HB.out⟩
  · have hq := str_ne ho
    have HN : Hid (¬ p) := Lib.hid (fun h => by have := hp.1 h; simp only [Exp.mk.injEq] at this; exact ho this.1)
    have HB := Lib.hid hb0
    clear ho hp hb0
    go_enter Tryd.func9, Tryd.ntmps9
    go_wp2
    go_ret
    exact ⟨⟨false, rfl, no_iff (fun h => (HN.out h).elim)⟩, HB.out⟩

theorem rSame_upto (n : Nat) : ∀ (s t : Exp), s.bulk ≤ n → ∀ (w : World) (cs ds : List Value), ExpAt w s cs → ExpAt w t ds → Calls Tryd.prog 9 #[vX cs, vX ds] w (SameP (s = t) w) := by
  induction n with
  | zero => intro t _ h; have := bulkX_pos t; omega
  | succ n IH =>
    intro s t h w cs ds hv hv2
    cases s
    cases t
    exact rSame_step n IH _ _ _ _ _ _ h _ Iff.rfl w cs ds hv hv2
/-- Same: just if they are. -/
theorem rSame_any (s t : Exp) (w : World) (cs ds : List Value) (hv : ExpAt w s cs) (hv2 : ExpAt w t ds) : Calls Tryd.prog 9 #[vX cs, vX ds] w (SameP (s = t) w) :=
  rSame_upto s.bulk s t (Nat.le_refl _) w cs ds hv hv2
set_option maxHeartbeats 4000000 in
set_option maxRecDepth 100000 in
theorem xSame_step (n : Nat) (IH : ∀ (s t : Exp), s.bulk ≤ n → ∀ (w : World) (cs ds : List Value), ExpAt w s cs → ExpAt w t ds → Calls Tryd.prog 11 #[vX cs, vX ds] w (SameP (s = t) w))
    (o1 t1 : ByteArray) (kids1 : List Exp) (o2 t2 : ByteArray) (kids2 : List Exp) (hn : (Exp.mk o1 t1 kids1).bulk ≤ n + 1) (p : Prop) (hp : p ↔ Exp.mk o1 t1 kids1 = Exp.mk o2 t2 kids2)
    (w : World) (cs ds : List Value) (hv : ExpAt w (.mk o1 t1 kids1) cs) (hv2 : ExpAt w (.mk o2 t2 kids2) ds) : Calls Tryd.prog 11 #[vX cs, vX ds] w (SameP p w) := by
  have hkb : bulkX kids1 ≤ n := by simp only [Exp.bulk] at hn; omega
  obtain ⟨a, cap, rfl, hl, hm, hnil, hx⟩ := hv.open
  obtain ⟨a2, cap2, rfl, hl2, hm2, hnil2, hx2⟩ := hv2.open
  clear hv hv2 hn
  unfold maxLen at hm hm2
  simp only [vX]
  have hb0 : Below w.heap.size w ((w.alloc (.cells #[.string o1, .string t1, .slice a kids1.length cap] 26)).alloc (.cells #[.string o2, .string t2, .slice a2 kids2.length cap2] 26)) := ((Below.refl _ w).alloc (Nat.le_refl _) _).alloc (by simp) _
  by_cases ho : o1 = o2
  · subst ho
    by_cases ht : t1 = t2
    · subst ht
      by_cases hlen : kids1.length = kids2.length
      · have hq : ((kids1.length : Int) != (kids2.length : Int)) = false := by simp [hlen]
        have HP := Lib.hid hp
        have HL := Lib.hid hlen
        have HX := Lib.hid hx
        have HX2 := Lib.hid hx2
        have HIH := Lib.hid IH
        obtain ⟨hc0, hc1, hz0, hz1⟩ := two_new (Below.refl ((w.alloc (.cells #[.string o1, .string t1, .slice a kids1.length cap] 26)).alloc (.cells #[.string o1, .string t1, .slice a2 kids2.length cap2] 26)).heap.size ((w.alloc (.cells #[.string o1, .string t1, .slice a kids1.length cap] 26)).alloc (.cells #[.string o1, .string t1, .slice a2 kids2.length cap2] 26)))
        have HC0 := Lib.hid hc0
        have HC1 := Lib.hid hc1
        have HB := Lib.hid hb0
        clear hp hlen hx hx2 IH hc0 hc1 hb0
        go_enter Tryd.func11, Tryd.ntmps11
        go_wp2_with fail
        generalize (w.alloc (.cells #[.string o1, .string t1, .slice a kids1.length cap] 26)).alloc (.cells #[.string o1, .string t1, .slice a2 kids2.length cap2] 26) = w2 at *
        go_loopw [30] (fun i wr => ∃ k : Nat, k ≤ kids1.length ∧ i = .int .i64 (k : Int) ∧ (∀ j (h1 : j < kids1.length) (h2 : j < kids2.length), j < k → kids1[j] = kids2[j]) ∧ Below w2.heap.size w2 wr) (fun i _ => kids1.length - (intOf i).toNat)
        case atStart => exact ⟨0, Nat.zero_le _, rfl, fun j _ _ h => by omega, Below.refl _ _⟩
        case round =>
          obtain ⟨k, hk, rfl, hall, hbl⟩ := hrel
          have hc0 := HC0.out.below hbl hz0
          have hc1 := HC1.out.below hbl hz1
          have hy0 := hc0.lt
          have hy1 := hc1.lt
          have HBL := Lib.hid hbl
          have HA := Lib.hid hall
          clear hall
          by_cases hkl : k < kids1.length
          · have hkl2 : k < kids2.length := by have := HL.out; omega
            have hne : kids1 ≠ [] := by intro h0; rw [h0] at hkl; simp at hkl
            have hne2 : kids2 ≠ [] := by intro h0; rw [h0] at hkl2; simp at hkl2
            cases a with
            | none => have := hnil rfl; omega
            | some x =>
            cases a2 with
            | none => have := hnil2 rfl; omega
            | some x2 =>
            obtain ⟨bb, off, sp⟩ := x
            obtain ⟨bb2, off2, sp2⟩ := x2
            obtain ⟨rfl, hlt, hkids⟩ := KidsE.below (KidsE.below HX.out HB.out) hbl _ rfl hne
            obtain ⟨rfl, hlt2, hkids2⟩ := KidsE.below (KidsE.below HX2.out HB.out) hbl _ rfl hne2
            simp only at hlt hkids hlt2 hkids2
            obtain ⟨kc0, hkc, hkv⟩ := ExpsAt.get hkids k hkl
            obtain ⟨kop, ktext, ksa, ksn, ksc, rfl, m0, m1, m2⟩ := exp_at hkv hkc
            obtain ⟨jc0, hjc, hjv⟩ := ExpsAt.get hkids2 k hkl2
            obtain ⟨jop, jtext, jsa, jsn, jsc, rfl, n0, n1, n2⟩ := exp_at hjv hjc
            have hIH := HIH.out kids1[k] kids2[k] (by have := bulkX_kid hkl; omega)
            have HD : Hid (kids1[k] = kids2[k] → ∀ j (h1 : j < kids1.length) (h2 : j < kids2.length), j < k + 1 → kids1[j] = kids2[j]) := Lib.hid (fun heq j h1 h2 h => by
                by_cases hjk : j = k
                · subst hjk; exact heq
                · exact HA.out j h1 h2 (by omega))
            have HN : Hid (¬ kids1[k] = kids2[k] → kids1 ≠ kids2) := Lib.hid (fun h => rows_ne hkl hkl2 h)
            clear HA hkc hjc
            generalize kids1[k] = kid at *
            generalize kids2[k] = jid at *
            obtain ⟨b, hb⟩ := some_bool (kid = jid)
            have hcall := fun (x : Under wr) => Under.call x (SameP.fix hb (hIH x.w _ _ (hkv.under x) (hjv.under x)))
            clear hIH
            have HBB := Lib.hid hb
            clear hb
            have p0 := fun x : Under wr => (x.below.cell (p := ⟨w.heap.size, 2, none⟩) hy0).trans (hc0.cell 2 _ rfl)
            have p1 := fun x : Under wr => (x.below.cell (p := ⟨w.heap.size + 1, 2, none⟩) hy1).trans (hc1.cell 2 _ rfl)
            have M0 := fun x : Under wr => (x.below.cell (by exact hlt)).trans m0
            have M1 := fun x : Under wr => (x.below.cell (by exact hlt)).trans m1
            have M2 := fun x : Under wr => (x.below.cell (by exact hlt)).trans m2
            have O0 := fun x : Under wr => (x.below.cell (by exact hlt2)).trans n0
            have O1 := fun x : Under wr => (x.below.cell (by exact hlt2)).trans n1
            have O2 := fun x : Under wr => (x.below.cell (by exact hlt2)).trans n2
            clear m0 m1 m2 n0 n1 n2
            have hc0c0 := hc0.cell 0 _ rfl
            have hc0f0 := hc0.frozen 0
            have hc0c1 := hc0.cell 1 _ rfl
            have hc0f1 := hc0.frozen 1
            have hc0c2 := hc0.cell 2 _ rfl
            have hc0f2 := hc0.frozen 2
            have hc1c0 := hc1.cell 0 _ rfl
            have hc1f0 := hc1.frozen 0
            have hc1c1 := hc1.cell 1 _ rfl
            have hc1f1 := hc1.frozen 1
            have hc1c2 := hc1.cell 2 _ rfl
            have hc1f2 := hc1.frozen 2
            simp only [vX] at hcall
            go_wp2_with fail
            refine wp_region_under wr (by kernel_rfl) (by kernel_rfl) (Below.refl _ _) ?_
            repeat (go_big_quiet_step ((go_at_call 11; exact hcall _)))
            refine wpQuiet_nil ?_
            rintro _ ⟨x, rfl⟩
            have hb3 := HBL.out.trans (x.below.mono HBL.out.size)
            have HB3 := Lib.hid hb3
            clear M0 M1 M2 O0 O1 O2 p0 p1 hcall
            cases b
            · have HY := Lib.hid (HN.out (fun h => by have := HBB.out.2 h; cases this))
              clear HBB HN HD
              go_wp2_with fail
              go_ret
              refine ⟨⟨false, rfl, no_iff (fun h => ?_)⟩, HB.out.trans (HB3.out.mono HB.out.size)⟩
              have h2 := HP.out.1 h
              simp only [Exp.mk.injEq] at h2
              exact HY.out h2.2.2
            · have HY := Lib.hid (HD.out (HBB.out.1 rfl))
              clear HBB HN HD
              go_wp2_with fail
              go_roundw
              case rel => exact ⟨k + 1, by omega, by go_num, HY.out, HB3.out⟩
              case measure => simp [intOf]; omega
          · obtain rfl : k = kids1.length := by omega
            have hR := Lib.hid (rows_eq HL.out (fun j h1 h2 => HA.out j h1 h2 h1))
            clear HA
            have hc0c0 := hc0.cell 0 _ rfl
            have hc0f0 := hc0.frozen 0
            have hc0c1 := hc0.cell 1 _ rfl
            have hc0f1 := hc0.frozen 1
            have hc0c2 := hc0.cell 2 _ rfl
            have hc0f2 := hc0.frozen 2
            have hc1c0 := hc1.cell 0 _ rfl
            have hc1f0 := hc1.frozen 0
            have hc1c1 := hc1.cell 1 _ rfl
            have hc1f1 := hc1.frozen 1
            have hc1c2 := hc1.cell 2 _ rfl
            have hc1f2 := hc1.frozen 2
            go_wp2_with fail
            go_ret
            refine ⟨⟨true, rfl, yes_iff (HP.out.2 ?_)⟩, HB.out.trans (HBL.out.mono HB.out.size)⟩
            rw [hR.out]
      · have hq : ((kids1.length : Int) != (kids2.length : Int)) = true := by rw [bne_iff_ne]; omega
        have HN : Hid (¬ p) := Lib.hid (fun h => by have := hp.1 h; simp only [Exp.mk.injEq] at this; exact hlen (by rw [this.2.2]))
        have HB := Lib.hid hb0
        clear hlen hp hb0
        go_enter Tryd.func11, Tryd.ntmps11
        go_wp2
        go_ret
        exact ⟨⟨false, rfl, no_iff (fun h => (HN.out h).elim)⟩, HB.out⟩
    · have hq := str_ne ht
      have HN : Hid (¬ p) := Lib.hid (fun h => by have := hp.1 h; simp only [Exp.mk.injEq] at this; exact ht this.2.1)
      have HB := Lib.hid hb0
      clear ht hp hb0
      go_enter Tryd.func11, Tryd.ntmps11
      go_wp2
      go_ret
      exact ⟨⟨false, rfl, no_iff (fun h => (HN.out h).elim)⟩, HB.out⟩
  · have hq := str_ne ho
    have HN : Hid (¬ p) := Lib.hid (fun h => by have := hp.1 h; simp only [Exp.mk.injEq] at this; exact ho this.1)
    have HB := Lib.hid hb0
    clear ho hp hb0
    go_enter Tryd.func11, Tryd.ntmps11
    go_wp2
    go_ret
    exact ⟨⟨false, rfl, no_iff (fun h => (HN.out h).elim)⟩, HB.out⟩

theorem xSame_upto (n : Nat) : ∀ (s t : Exp), s.bulk ≤ n → ∀ (w : World) (cs ds : List Value), ExpAt w s cs → ExpAt w t ds → Calls Tryd.prog 11 #[vX cs, vX ds] w (SameP (s = t) w) := by
  induction n with
  | zero => intro t _ h; have := bulkX_pos t; omega
  | succ n IH =>
    intro s t h w cs ds hv hv2
    cases s
    cases t
    exact xSame_step n IH _ _ _ _ _ _ h _ Iff.rfl w cs ds hv hv2
/-- Same: just if they are. -/
theorem xSame_any (s t : Exp) (w : World) (cs ds : List Value) (hv : ExpAt w s cs) (hv2 : ExpAt w t ds) : Calls Tryd.prog 11 #[vX cs, vX ds] w (SameP (s = t) w) :=
  xSame_upto s.bulk s t (Nat.le_refl _) w cs ds hv hv2
end Go.Proofs.YtjlikcfabekhlaaDoor

/- Contracts of library functions at this program, laid in plain words by the shelf's two commands. -/
namespace Go.Proofs
open Go.Shelf
def Tryd.lays161_ren : Go.Shelf.Ren := ⟨fun | 161 => 59 | 231 => 78 | 227 => 66 | 233 => 79 | 235 => 80 | 228 => 77 | 197 => 94 | 151 => 87 | 260 => 102 | 152 => 75 | 137 => 19 | 119 => 93 | 224 => 91 | 225 => 90 | 217 => 27 | 266 => 41 | n => n, fun | 9 => 9 | 4 => 4 | 3 => 3 | 5 => 5 | 117 => 96 | 116 => 95 | 0 => 0 | 124 => 99 | 105 => 110 | 21 => 21 | 119 => 126 | 46 => 117 | 139 => 129 | 138 => 128 | n => n, fun | 3 => 4 | 4 => 5 | n => n⟩
theorem Tryd.lays161 : Go.Proofs.Lays.n161 Tryd.prog Tryd.lays161_ren := {
  mixed := by kernel_rfl
  f119 := Tryd.func93.trans (congrArg some (by kernel_rfl))
  f137 := Tryd.func19.trans (congrArg some (by kernel_rfl))
  f151 := Tryd.func87.trans (congrArg some (by kernel_rfl))
  f152 := Tryd.func75.trans (congrArg some (by kernel_rfl))
  f161 := Tryd.func59.trans (congrArg some (by kernel_rfl))
  f197 := Tryd.func94.trans (congrArg some (by kernel_rfl))
  f217 := Tryd.func27.trans (congrArg some (by kernel_rfl))
  f224 := Tryd.func91.trans (congrArg some (by kernel_rfl))
  f225 := Tryd.func90.trans (congrArg some (by kernel_rfl))
  f227 := Tryd.func66.trans (congrArg some (by kernel_rfl))
  f228 := Tryd.func77.trans (congrArg some (by kernel_rfl))
  f231 := Tryd.func78.trans (congrArg some (by kernel_rfl))
  f233 := Tryd.func79.trans (congrArg some (by kernel_rfl))
  f235 := Tryd.func80.trans (congrArg some (by kernel_rfl))
  f260 := Tryd.func102.trans (congrArg some (by kernel_rfl))
  f266 := Tryd.func41.trans (congrArg some (by kernel_rfl))
  t0 := Tryd.underlying0
  a0 := Tryd.isAgg0
  z0 := Tryd.sizeOf0
  v0 := Tryd.zeroValue0
  t3 := Tryd.underlying3
  a3 := Tryd.isAgg3
  z3 := Tryd.sizeOf3
  v3 := Tryd.zeroValue3
  t4 := Tryd.underlying4
  a4 := Tryd.isAgg4
  z4 := Tryd.sizeOf4
  v4 := Tryd.zeroValue4
  t5 := Tryd.underlying5
  a5 := Tryd.isAgg5
  z5 := Tryd.sizeOf5
  v5 := Tryd.zeroValue5
  t9 := Tryd.underlying9
  a9 := Tryd.isAgg9
  z9 := Tryd.sizeOf9
  v9 := Tryd.zeroValue9
  t21 := Tryd.underlying21
  a21 := Tryd.isAgg21
  z21 := Tryd.sizeOf21
  v21 := Tryd.zeroValue21
  t46 := Tryd.underlying117
  a46 := Tryd.isAgg117
  z46 := Tryd.sizeOf117
  v46 := Tryd.zeroValue117
  t105 := Tryd.underlying110
  a105 := Tryd.isAgg110
  z105 := Tryd.sizeOf110
  v105 := Tryd.zeroValue110
  t116 := Tryd.underlying95
  a116 := Tryd.isAgg95
  z116 := Tryd.sizeOf95
  t117 := Tryd.underlying96
  a117 := Tryd.isAgg96
  z117 := Tryd.sizeOf96
  v117 := Tryd.zeroValue96
  t119 := Tryd.underlying126
  a119 := Tryd.isAgg126
  z119 := Tryd.sizeOf126
  t124 := Tryd.underlying99
  a124 := Tryd.isAgg99
  z124 := Tryd.sizeOf99
  v124 := Tryd.zeroValue99
  t138 := Tryd.underlying128
  a138 := Tryd.isAgg128
  z138 := Tryd.sizeOf128
  v138 := Tryd.zeroValue128
  t139 := Tryd.underlying129
  a139 := Tryd.isAgg129
  z139 := Tryd.sizeOf129
  v139 := Tryd.zeroValue129
  g3 := by kernel_rfl
  g4 := by kernel_rfl }
open Go.RowKit in
/-- strings.TrimLeft: "TrimLeft returns a slice of the string s with all leading Unicode code points contained in cutset removed.": AT A cutset OF ONE ASCII BYTE. The world is as it was. (LAID: no walk: one application.) -/
theorem Tryd.strings_TrimLeft_one (s : ByteArray) (c : UInt8) (hc : c.toNat < 128) (w : World) :
    Calls Tryd.prog 59 #[.string s, .string ⟨#[c]⟩] w fun e w' => e = .returned (.string ⟨(Lib.trimLeftB s.data.toList c).toArray⟩) ∧ w' = w := Any.strings_TrimLeft_one Tryd.lays161 s c hc w
def Tryd.lays162_ren : Go.Shelf.Ren := ⟨fun | 162 => 50 | 232 => 65 | 227 => 66 | 234 => 67 | 236 => 68 | 228 => 77 | 271 => 86 | 151 => 87 | 120 => 100 | 197 => 94 | 152 => 75 | 260 => 102 | 137 => 19 | 119 => 93 | 224 => 91 | 225 => 90 | 217 => 27 | 266 => 41 | n => n, fun | 9 => 9 | 4 => 4 | 3 => 3 | 5 => 5 | 117 => 96 | 116 => 95 | 0 => 0 | 124 => 99 | 21 => 21 | 105 => 110 | 46 => 117 | 119 => 126 | 139 => 129 | 138 => 128 | n => n, fun | 3 => 4 | 4 => 5 | n => n⟩
theorem Tryd.lays162 : Go.Proofs.Lays.n162 Tryd.prog Tryd.lays162_ren := {
  mixed := by kernel_rfl
  f119 := Tryd.func93.trans (congrArg some (by kernel_rfl))
  f120 := Tryd.func100.trans (congrArg some (by kernel_rfl))
  f137 := Tryd.func19.trans (congrArg some (by kernel_rfl))
  f151 := Tryd.func87.trans (congrArg some (by kernel_rfl))
  f152 := Tryd.func75.trans (congrArg some (by kernel_rfl))
  f162 := Tryd.func50.trans (congrArg some (by kernel_rfl))
  f197 := Tryd.func94.trans (congrArg some (by kernel_rfl))
  f217 := Tryd.func27.trans (congrArg some (by kernel_rfl))
  f224 := Tryd.func91.trans (congrArg some (by kernel_rfl))
  f225 := Tryd.func90.trans (congrArg some (by kernel_rfl))
  f227 := Tryd.func66.trans (congrArg some (by kernel_rfl))
  f228 := Tryd.func77.trans (congrArg some (by kernel_rfl))
  f232 := Tryd.func65.trans (congrArg some (by kernel_rfl))
  f234 := Tryd.func67.trans (congrArg some (by kernel_rfl))
  f236 := Tryd.func68.trans (congrArg some (by kernel_rfl))
  f260 := Tryd.func102.trans (congrArg some (by kernel_rfl))
  f266 := Tryd.func41.trans (congrArg some (by kernel_rfl))
  f271 := Tryd.func86.trans (congrArg some (by kernel_rfl))
  t0 := Tryd.underlying0
  a0 := Tryd.isAgg0
  z0 := Tryd.sizeOf0
  v0 := Tryd.zeroValue0
  t3 := Tryd.underlying3
  a3 := Tryd.isAgg3
  z3 := Tryd.sizeOf3
  v3 := Tryd.zeroValue3
  t4 := Tryd.underlying4
  a4 := Tryd.isAgg4
  z4 := Tryd.sizeOf4
  v4 := Tryd.zeroValue4
  t5 := Tryd.underlying5
  a5 := Tryd.isAgg5
  z5 := Tryd.sizeOf5
  v5 := Tryd.zeroValue5
  t9 := Tryd.underlying9
  a9 := Tryd.isAgg9
  z9 := Tryd.sizeOf9
  v9 := Tryd.zeroValue9
  t21 := Tryd.underlying21
  a21 := Tryd.isAgg21
  z21 := Tryd.sizeOf21
  v21 := Tryd.zeroValue21
  t46 := Tryd.underlying117
  a46 := Tryd.isAgg117
  z46 := Tryd.sizeOf117
  v46 := Tryd.zeroValue117
  t105 := Tryd.underlying110
  a105 := Tryd.isAgg110
  z105 := Tryd.sizeOf110
  v105 := Tryd.zeroValue110
  t116 := Tryd.underlying95
  a116 := Tryd.isAgg95
  z116 := Tryd.sizeOf95
  t117 := Tryd.underlying96
  a117 := Tryd.isAgg96
  z117 := Tryd.sizeOf96
  v117 := Tryd.zeroValue96
  t119 := Tryd.underlying126
  a119 := Tryd.isAgg126
  z119 := Tryd.sizeOf126
  t124 := Tryd.underlying99
  a124 := Tryd.isAgg99
  z124 := Tryd.sizeOf99
  v124 := Tryd.zeroValue99
  t138 := Tryd.underlying128
  a138 := Tryd.isAgg128
  z138 := Tryd.sizeOf128
  v138 := Tryd.zeroValue128
  t139 := Tryd.underlying129
  a139 := Tryd.isAgg129
  z139 := Tryd.sizeOf129
  v139 := Tryd.zeroValue129
  g3 := by kernel_rfl
  g4 := by kernel_rfl }
open Go.RowKit in
/-- strings.TrimRight: "TrimRight returns a slice of the string s, with all trailing Unicode code points contained in cutset removed.": AT A cutset OF ONE ASCII BYTE. The world is as it was. (LAID: no walk: one application.) -/
theorem Tryd.strings_TrimRight_one (s : ByteArray) (c : UInt8) (hc : c.toNat < 128) (w : World) (hs : s.size ≤ 9223372036854775807) :
    Calls Tryd.prog 50 #[.string s, .string ⟨#[c]⟩] w fun e w' => e = .returned (.string ⟨(Lib.trimRightB s.data.toList c).toArray⟩) ∧ w' = w := Any.strings_TrimRight_one Tryd.lays162 s c hc w hs
def Tryd.lays137_ren : Go.Shelf.Ren := ⟨fun | 137 => 19 | 217 => 27 | 266 => 41 | n => n, fun | 9 => 9 | 5 => 5 | 3 => 3 | n => n, fun | n => n⟩
theorem Tryd.lays137 : Go.Proofs.Lays.n137 Tryd.prog Tryd.lays137_ren := {
  mixed := by kernel_rfl
  f137 := Tryd.func19.trans (congrArg some (by kernel_rfl))
  f217 := Tryd.func27.trans (congrArg some (by kernel_rfl))
  f266 := Tryd.func41.trans (congrArg some (by kernel_rfl))
  t3 := Tryd.underlying3
  a3 := Tryd.isAgg3
  z3 := Tryd.sizeOf3
  v3 := Tryd.zeroValue3
  t5 := Tryd.underlying5
  a5 := Tryd.isAgg5
  z5 := Tryd.sizeOf5
  v5 := Tryd.zeroValue5
  t9 := Tryd.underlying9
  a9 := Tryd.isAgg9
  z9 := Tryd.sizeOf9
  v9 := Tryd.zeroValue9 }
open Go.RowKit in
/-- strings.IndexByte: "IndexByte returns the index of the first instance of c in s, or -1 if c is not present in s.": IT RETURNS 'Lib.indexByte s c'; the world is as it was. (LAID: no walk: one application.) -/
theorem Tryd.strings_IndexByte (s : ByteArray) (c : Int) (w : World) :
    Calls Tryd.prog 19 #[.string s, .int .u8 c] w fun e w' => e = .returned (.int .i64 (Lib.indexByte s.data.toList c.toNat.toUInt8)) ∧ w' = w := Any.strings_IndexByte Tryd.lays137 s c w
def Tryd.lays103_ren : Go.Shelf.Ren := ⟨fun | 103 => 56 | 210 => 74 | 206 => 49 | n => n, fun | 9 => 9 | 4 => 4 | 24 => 85 | 3 => 3 | n => n, fun | n => n⟩
theorem Tryd.lays103 : Go.Proofs.Lays.n103 Tryd.prog Tryd.lays103_ren := {
  mixed := by kernel_rfl
  f103 := Tryd.func56.trans (congrArg some (by kernel_rfl))
  f206 := Tryd.func49.trans (congrArg some (by kernel_rfl))
  f210 := Tryd.func74.trans (congrArg some (by kernel_rfl))
  t3 := Tryd.underlying3
  a3 := Tryd.isAgg3
  z3 := Tryd.sizeOf3
  v3 := Tryd.zeroValue3
  t4 := Tryd.underlying4
  a4 := Tryd.isAgg4
  z4 := Tryd.sizeOf4
  v4 := Tryd.zeroValue4
  t9 := Tryd.underlying9
  a9 := Tryd.isAgg9
  z9 := Tryd.sizeOf9
  v9 := Tryd.zeroValue9
  t24 := Tryd.underlying85
  a24 := Tryd.isAgg85
  z24 := Tryd.sizeOf85
  v24 := Tryd.zeroValue85 }
open Go.RowKit in
/-- strings.CutPrefix: "CutPrefix returns s without the provided leading prefix string and reports whether it found the prefix. If s doesn't start with prefix, CutPrefix returns s, false. If prefix is the empty string, CutPrefix returns s, true.": IT RETURNS '(Lib.trimPrefix s p, Lib.hasPrefix s p)'; the world is as it was. (LAID: no walk: one application.) -/
theorem Tryd.strings_CutPrefix (s p : ByteArray) (w : World) :
    Calls Tryd.prog 56 #[.string s, .string p] w fun e w' => e = .returned (.tuple #[.string ⟨(Lib.trimPrefix s.data.toList p.data.toList).toArray⟩, .bool (Lib.hasPrefix s.data.toList p.data.toList)]) ∧ w' = w := Any.strings_CutPrefix Tryd.lays103 s p w
def Tryd.laysM316_ren : Go.Shelf.Ren := ⟨fun | 316 => 81 | n => n, fun | 9 => 9 | 3 => 3 | 4 => 4 | 37 => 71 | 0 => 0 | 127 => 92 | 5 => 5 | n => n, fun | n => n⟩
theorem Tryd.laysM316 : Go.Proofs.LaysM.n316 Tryd.prog Tryd.laysM316_ren := {
  mixed := by kernel_rfl
  f316 := Tryd.func81.trans (congrArg some (by kernel_rfl))
  t0 := Tryd.underlying0
  a0 := Tryd.isAgg0
  z0 := Tryd.sizeOf0
  v0 := Tryd.zeroValue0
  t3 := Tryd.underlying3
  a3 := Tryd.isAgg3
  z3 := Tryd.sizeOf3
  v3 := Tryd.zeroValue3
  t4 := Tryd.underlying4
  a4 := Tryd.isAgg4
  z4 := Tryd.sizeOf4
  v4 := Tryd.zeroValue4
  t9 := Tryd.underlying9
  a9 := Tryd.isAgg9
  z9 := Tryd.sizeOf9
  v9 := Tryd.zeroValue9
  t37 := Tryd.underlying71
  a37 := Tryd.isAgg71
  z37 := Tryd.sizeOf71
  v37 := Tryd.zeroValue71
  t127 := Tryd.underlying92
  a127 := Tryd.isAgg92
  z127 := Tryd.sizeOf92
  v127 := Tryd.zeroValue92
  t5 := Tryd.underlying5
  a5 := Tryd.isAgg5
  z5 := Tryd.sizeOf5
  v5 := Tryd.zeroValue5
  i0 := by kernel_rfl
  i3 := by kernel_rfl
  i4 := by kernel_rfl
  i5 := by kernel_rfl
  i9 := by kernel_rfl
  i37 := by kernel_rfl
  i127 := by kernel_rfl }
open Go.RowKit in
/-- internal/stringslite.Clone (what strings.Clone calls): "Clone returns a fresh copy of s.": THE SAME BYTES. Of what was there nothing has turned (a new row is laid, and frozen, where s is not empty). (LAID: no walk: one application.) -/
theorem Tryd.stringslite_Clone (s : ByteArray) (w : World) (hlim : s.size ≤ 281474976710656) :
    Calls Tryd.prog 81 #[.string s] w fun e w' => e = .returned (.string s) ∧ Below w.heap.size w w' := Any.stringslite_Clone Tryd.laysM316 s w hlim
def Tryd.lays143_ren : Go.Shelf.Ren := ⟨fun | 143 => 52 | 219 => 71 | 217 => 27 | 225 => 90 | 224 => 91 | 267 => 92 | 266 => 41 | 314 => 101 | n => n, fun | 9 => 9 | 3 => 3 | 4 => 4 | 5 => 5 | 46 => 117 | 146 => 124 | 51 => 123 | n => n, fun | 1 => 1 | n => n⟩
theorem Tryd.lays143 : Go.Proofs.Lays.n143 Tryd.prog Tryd.lays143_ren := {
  mixed := by kernel_rfl
  f143 := Tryd.func52.trans (congrArg some (by kernel_rfl))
  f217 := Tryd.func27.trans (congrArg some (by kernel_rfl))
  f219 := Tryd.func71.trans (congrArg some (by kernel_rfl))
  f224 := Tryd.func91.trans (congrArg some (by kernel_rfl))
  f225 := Tryd.func90.trans (congrArg some (by kernel_rfl))
  f266 := Tryd.func41.trans (congrArg some (by kernel_rfl))
  f267 := Tryd.func92.trans (congrArg some (by kernel_rfl))
  f314 := Tryd.func101.trans (congrArg some (by kernel_rfl))
  t3 := Tryd.underlying3
  a3 := Tryd.isAgg3
  z3 := Tryd.sizeOf3
  v3 := Tryd.zeroValue3
  t4 := Tryd.underlying4
  a4 := Tryd.isAgg4
  z4 := Tryd.sizeOf4
  v4 := Tryd.zeroValue4
  t5 := Tryd.underlying5
  a5 := Tryd.isAgg5
  z5 := Tryd.sizeOf5
  v5 := Tryd.zeroValue5
  t9 := Tryd.underlying9
  a9 := Tryd.isAgg9
  z9 := Tryd.sizeOf9
  v9 := Tryd.zeroValue9
  t46 := Tryd.underlying117
  a46 := Tryd.isAgg117
  z46 := Tryd.sizeOf117
  v46 := Tryd.zeroValue117
  t51 := Tryd.underlying123
  a51 := Tryd.isAgg123
  z51 := Tryd.sizeOf123
  v51 := Tryd.zeroValue123
  t146 := Tryd.underlying124
  a146 := Tryd.isAgg124
  z146 := Tryd.sizeOf124
  v146 := Tryd.zeroValue124
  g1 := by kernel_rfl }
open Go.RowKit Go.Lib in
/-- strings.Index: "Index returns the index of the first instance of substr in s, or -1 if substr is not present in s.": IT RETURNS 'Lib.index s substr'; the world is as it was. (LAID: no walk: one application.) -/
theorem Tryd.strings_Index (s sub : ByteArray) (m : Int) (w : World) (hs : s.size < 4294967281) (hm : w.cell? ⟨1, 0, none⟩ = some (.int .i64 m)) :
    Calls Tryd.prog 52 #[.string s, .string sub] w fun e w' => e = .returned (.int .i64 (Lib.index s.data.toList sub.data.toList)) ∧ w' = w := Any.strings_Index Tryd.lays143 s sub m w hs hm
def Tryd.lays99_ren : Go.Shelf.Ren := ⟨fun | 99 => 33 | 206 => 49 | n => n, fun | 9 => 9 | 4 => 4 | 3 => 3 | n => n, fun | n => n⟩
theorem Tryd.lays99 : Go.Proofs.Lays.n99 Tryd.prog Tryd.lays99_ren := {
  mixed := by kernel_rfl
  f99 := Tryd.func33.trans (congrArg some (by kernel_rfl))
  f206 := Tryd.func49.trans (congrArg some (by kernel_rfl))
  t3 := Tryd.underlying3
  a3 := Tryd.isAgg3
  z3 := Tryd.sizeOf3
  v3 := Tryd.zeroValue3
  t4 := Tryd.underlying4
  a4 := Tryd.isAgg4
  z4 := Tryd.sizeOf4
  v4 := Tryd.zeroValue4
  t9 := Tryd.underlying9
  a9 := Tryd.isAgg9
  z9 := Tryd.sizeOf9
  v9 := Tryd.zeroValue9 }
open Go.RowKit Go.Lib in
/-- strings.HasPrefix: "HasPrefix reports whether the string s begins with prefix.": IT RETURNS 'Lib.hasPrefix s prefix'; the world is as it was. (LAID: no walk: one application.) -/
theorem Tryd.strings_HasPrefix (s p : ByteArray) (w : World) :
    Calls Tryd.prog 33 #[.string s, .string p] w fun e w' => e = .returned (.bool (Lib.hasPrefix s.data.toList p.data.toList)) ∧ w' = w := Any.strings_HasPrefix Tryd.lays99 s p w
def Tryd.lays153_ren : Go.Shelf.Ren := ⟨fun | 153 => 57 | 152 => 75 | 226 => 76 | 227 => 66 | 228 => 77 | 137 => 19 | 119 => 93 | 224 => 91 | 225 => 90 | 217 => 27 | 266 => 41 | n => n, fun | 9 => 9 | 3 => 3 | 4 => 4 | 5 => 5 | 21 => 21 | 117 => 96 | 116 => 95 | 0 => 0 | 46 => 117 | 124 => 99 | n => n, fun | n => n⟩
theorem Tryd.lays153 : Go.Proofs.Lays.n153 Tryd.prog Tryd.lays153_ren := {
  mixed := by kernel_rfl
  f119 := Tryd.func93.trans (congrArg some (by kernel_rfl))
  f137 := Tryd.func19.trans (congrArg some (by kernel_rfl))
  f152 := Tryd.func75.trans (congrArg some (by kernel_rfl))
  f153 := Tryd.func57.trans (congrArg some (by kernel_rfl))
  f217 := Tryd.func27.trans (congrArg some (by kernel_rfl))
  f224 := Tryd.func91.trans (congrArg some (by kernel_rfl))
  f225 := Tryd.func90.trans (congrArg some (by kernel_rfl))
  f226 := Tryd.func76.trans (congrArg some (by kernel_rfl))
  f227 := Tryd.func66.trans (congrArg some (by kernel_rfl))
  f228 := Tryd.func77.trans (congrArg some (by kernel_rfl))
  f266 := Tryd.func41.trans (congrArg some (by kernel_rfl))
  t0 := Tryd.underlying0
  a0 := Tryd.isAgg0
  z0 := Tryd.sizeOf0
  v0 := Tryd.zeroValue0
  t3 := Tryd.underlying3
  a3 := Tryd.isAgg3
  z3 := Tryd.sizeOf3
  v3 := Tryd.zeroValue3
  t4 := Tryd.underlying4
  a4 := Tryd.isAgg4
  z4 := Tryd.sizeOf4
  v4 := Tryd.zeroValue4
  t5 := Tryd.underlying5
  a5 := Tryd.isAgg5
  z5 := Tryd.sizeOf5
  v5 := Tryd.zeroValue5
  t9 := Tryd.underlying9
  a9 := Tryd.isAgg9
  z9 := Tryd.sizeOf9
  v9 := Tryd.zeroValue9
  t21 := Tryd.underlying21
  a21 := Tryd.isAgg21
  z21 := Tryd.sizeOf21
  v21 := Tryd.zeroValue21
  t46 := Tryd.underlying117
  a46 := Tryd.isAgg117
  z46 := Tryd.sizeOf117
  v46 := Tryd.zeroValue117
  t116 := Tryd.underlying95
  a116 := Tryd.isAgg95
  z116 := Tryd.sizeOf95
  t117 := Tryd.underlying96
  a117 := Tryd.isAgg96
  z117 := Tryd.sizeOf96
  v117 := Tryd.zeroValue96
  t124 := Tryd.underlying99
  a124 := Tryd.isAgg99
  z124 := Tryd.sizeOf99
  v124 := Tryd.zeroValue99 }
open Go.RowKit Go.Lib in
theorem Tryd.strings_IndexAny_laid (s chars : ByteArray) (w : World) (hs : s.size < 4294967281) (hcs : chars.size < 4294967281) (has : ∀ (j : Nat) b, s.data.toList[j]? = some b → b.toNat < 128) (hac : ∀ (j : Nat) b, chars.data.toList[j]? = some b → b.toNat < 128) :
    Calls Tryd.prog 57 #[.string s, .string chars] w fun e w' => e = .returned (.int .i64 (Lib.indexAny s.data.toList chars.data.toList)) ∧ Below w.heap.size w w' := Any.strings_IndexAny_laid Tryd.lays153 (by kernel_rfl) s chars w hs hcs has hac
end Go.Proofs

/- The walks of the lexer's small functions (layer 11): letters, digits, names, signs. -/
namespace Go.Proofs.YtjlikcfabekhlaaDoor
open Go.RowKit Go.Tab

set_option maxHeartbeats 2000000 in
set_option maxRecDepth 100000 in
theorem letter_any (c : UInt8) (w : World) : Calls Tryd.prog 28 #[.int .u8 c.toNat] w fun e w' => e = .returned (.bool (letB c)) ∧ w = w' := by
  have hL : letB c = (decide (65 ≤ c.toNat ∧ c.toNat ≤ 90) || (decide (97 ≤ c.toNat ∧ c.toNat ≤ 122) || decide (c.toNat = 95))) := rfl
  generalize letB c = b at hL
  generalize c.toNat = n at hL
  have hr : ((n < 65 ∨ (65 ≤ n ∧ 90 < n ∧ n < 95) ∨ (65 ≤ n ∧ 90 < n ∧ n = 96) ∨ (65 ≤ n ∧ 90 < n ∧ 97 ≤ n ∧ 122 < n)) ∧ b = false) ∨ (((65 ≤ n ∧ n ≤ 90) ∨ (65 ≤ n ∧ 90 < n ∧ 97 ≤ n ∧ n ≤ 122) ∨ (65 ≤ n ∧ 90 < n ∧ n < 97 ∧ n = 95)) ∧ b = true) := by
    cases b with
    | false =>
      have h := hL.symm
      simp only [Bool.or_eq_false_iff, decide_eq_false_iff_not] at h
      left
      exact ⟨by omega, rfl⟩
    | true =>
      have h := hL.symm
      simp only [Bool.or_eq_true, decide_eq_true_eq] at h
      right
      exact ⟨by omega, rfl⟩
  clear hL
  rcases hr with ⟨(h | ⟨h1, h2, h3⟩ | ⟨h1, h2, rfl⟩ | ⟨h1, h2, h3, h4⟩), rfl⟩ | ⟨(⟨h1, h2⟩ | ⟨h1, h2, h3, h4⟩ | ⟨h1, h2, h3, rfl⟩), rfl⟩
  all_goals
    go_enter Tryd.func28, Tryd.ntmps28
    go_wp2
    go_ret
    first
    | exact ⟨rfl, rfl⟩
    | exact ⟨ret_bool (by simp only [ne_eq, Bool.or_eq_false_iff, Bool.or_eq_true, decide_eq_false_iff_not, decide_eq_true_eq, beq_eq_false_iff_ne, beq_iff_eq]; omega), rfl⟩

set_option maxHeartbeats 2000000 in
set_option maxRecDepth 100000 in
theorem digit_any (c : UInt8) (w : World) : Calls Tryd.prog 30 #[.int .u8 c.toNat] w fun e w' => e = .returned (.bool (dg c)) ∧ w = w' := by
  have hL : dg c = decide (48 ≤ c.toNat ∧ c.toNat ≤ 57) := rfl
  generalize dg c = b at hL
  generalize c.toNat = n at hL
  have hr : ((n < 48 ∨ (48 ≤ n ∧ 57 < n)) ∧ b = false) ∨ ((48 ≤ n ∧ n ≤ 57) ∧ b = true) := by
    cases b with
    | false =>
      have h := hL.symm
      simp only [decide_eq_false_iff_not] at h
      left
      exact ⟨by omega, rfl⟩
    | true =>
      have h := hL.symm
      simp only [decide_eq_true_eq] at h
      right
      exact ⟨by omega, rfl⟩
  clear hL
  rcases hr with ⟨(h | ⟨h1, h2⟩), rfl⟩ | ⟨⟨h1, h2⟩, rfl⟩
  all_goals
    go_enter Tryd.func30, Tryd.ntmps30
    go_wp2
    go_ret
    first
    | exact ⟨rfl, rfl⟩
    | exact ⟨ret_bool (by simp only [ne_eq, Bool.or_eq_false_iff, Bool.or_eq_true, decide_eq_false_iff_not, decide_eq_true_eq, beq_eq_false_iff_ne, beq_iff_eq]; omega), rfl⟩

theorem idN_step (l : Bs) (k : Nat) (h : k < l.length) : idN (l.drop k) = if idB l[k] then idN (l.drop (k + 1)) + 1 else 0 := by
  rw [List.drop_eq_getElem_cons h, idN]

set_option maxHeartbeats 2000000 in
set_option maxRecDepth 100000 in
theorem ident_any (s : ByteArray) (w : World) (hs : s.size ≤ maxLen) (h0 : 0 < s.size) :
    Calls Tryd.prog 29 #[.string s] w fun e w' => e = .returned (.int .i64 ((1 + idN (s.data.toList.drop 1) : Nat) : Int)) ∧ w = w' := by
  unfold maxLen at hs
  generalize hq : idN (s.data.toList.drop 1) = q
  have HQ := Lib.hid hq
  clear hq
  go_enter Tryd.func29, Tryd.ntmps29
  go_wp2_with fail
  go_loop [3] (fun n => ∃ k : Nat, n = .int .i64 (k : Int) ∧ 1 ≤ k ∧ k ≤ s.size ∧ k + idN (s.data.toList.drop k) = 1 + q) (fun n => s.size - (intOf n).toNat)
  case atStart => exact ⟨1, rfl, Nat.le_refl _, h0, by rw [HQ.out]⟩
  case round =>
    obtain ⟨k, rfl, hk1, hk, hI⟩ := hrel
    by_cases hlt : k < s.size
    · have hst := idN_step s.data.toList k (by rw [← size_list]; exact hlt)
      rw [hst] at hI
      have hLe := letter_any (s[k]'hlt)
      have hDi := digit_any (s[k]'hlt)
      have hid : idB (s[k]'hlt) = (letB (s[k]'hlt) || dg (s[k]'hlt)) := rfl
      rw [← get_list hlt, hid] at hI
      clear hst hid
      cases hb : letB (s[k]'hlt) with
      | true =>
        rw [hb] at hI hLe
        simp only [Bool.true_or, if_true] at hI
        have HI := Lib.hid hI
        clear hI hb hDi
        go_wp2_with fail
        refine (hLe _).mono ?_
        rintro _ _ ⟨rfl, rfl⟩
        go_wp2
        go_round
        case rel => exact ⟨k + 1, by go_num, by omega, by omega, by have := HI.out; omega⟩
        case measure => simp [intOf]; omega
      | false =>
        rw [hb] at hI hLe
        cases hd : dg (s[k]'hlt) with
        | true =>
          rw [hd] at hI hDi
          simp only [Bool.or_true, if_true] at hI
          have HI := Lib.hid hI
          clear hI hb hd
          go_wp2_with fail
          refine (hLe _).mono ?_
          rintro _ _ ⟨rfl, rfl⟩
          go_wp2_with fail
          refine (hDi _).mono ?_
          rintro _ _ ⟨rfl, rfl⟩
          go_wp2
          go_round
          case rel => exact ⟨k + 1, by go_num, by omega, by omega, by have := HI.out; omega⟩
          case measure => simp [intOf]; omega
        | false =>
          rw [hd] at hI hDi
          simp only [Bool.or_false, Bool.false_eq_true, if_false] at hI
          have HI := Lib.hid hI
          clear hI hb hd
          go_wp2_with fail
          refine (hLe _).mono ?_
          rintro _ _ ⟨rfl, rfl⟩
          go_wp2_with fail
          refine (hDi _).mono ?_
          rintro _ _ ⟨rfl, rfl⟩
          go_wp2
          go_ret
          exact ⟨ret_num (by have := HI.out; omega), rfl⟩
    · obtain rfl : k = s.size := by omega
      have he : idN (s.data.toList.drop s.size) = 0 := by rw [size_list, List.drop_length]; rfl
      rw [he] at hI
      have HI := Lib.hid hI
      clear hI he
      go_wp2
      go_ret
      exact ⟨ret_num (by have := HI.out; omega), rfl⟩
end Go.Proofs.YtjlikcfabekhlaaDoor

/- The walk of the lexer's look into a comment (layer 11). -/
namespace Go.Proofs.YtjlikcfabekhlaaDoor
open Go.RowKit Go.Tab Go.Shelf
attribute [local go_sem] Oper.semAt_some

def badC (x : Nat × Nat) : Bool := decide (x.2 < 32) && x.2 != 9
def wthV : Option (Nat × Int) → Value
  | none => .tuple #[.int .i64 0, .int .i64 0]
  | some x => .tuple #[.int .i64 (x.1 : Nat), .int .i64 x.2]
/-- Between two rounds: nothing wrong has come. -/
def WiI (w : World) (pre : List (Nat × Nat)) (W : World) : Prop :=
  ((∀ x ∈ pre, badC x = false) ∧ Cells W w.heap.size #[.int .i64 0] 3 ∧ Cells W (w.heap.size + 1) #[.int .i64 0] 27) ∧ Below w.heap.size w W
def WiX (w : World) (c : Code) (pre : List (Nat × Nat)) (W : World) : Prop :=
  (c = .ret ∧ ∃ d x, pre = d ++ [x] ∧ (∀ x ∈ d, badC x = false) ∧ badC x = true ∧ Cells W w.heap.size #[.int .i64 (x.1 : Nat)] 3 ∧ Cells W (w.heap.size + 1) #[.int .i64 3] 27) ∧ Below w.heap.size w W
theorem cells_own {A B : World} {row : Option Nat} {g : Nat} {cs : Array Value} {t : TypeId} (h : Cells A g cs t) (hg : A.grownBy B row) (hr : ∀ r, row = some r → ∃ o : Obj, A.heap[r]? = some o ∧ o.isCells = false) : Cells B g cs t :=
  h.kept hg (fun e' => by
    obtain ⟨o, ho, hc⟩ := hr _ e'.symm
    rw [show A.heap[g]? = _ from h] at ho; cases ho; cases hc)
theorem WiI_own (w : World) (L : Nat) (hL : w.heap.size ≤ L) : OwnFrom L (WiI w) :=
  OwnFrom.and (Own.from (fun pre A B row hs hg' hr => ⟨hs.1, cells_own hs.2.1 hg' hr, cells_own hs.2.2 hg' hr⟩) _) (ownFrom_below (Nat.le_refl _) hL)
theorem WiX_own (w : World) (L : Nat) (hL : w.heap.size ≤ L) (c : Code) : OwnFrom L (WiX w c) :=
  OwnFrom.and (Own.from (fun pre A B row hs hg' hr => by
    obtain ⟨h1, d, x, h2, h3, h4, h5, h6⟩ := hs
    exact ⟨h1, d, x, h2, h3, h4, cells_own h5 hg' hr, cells_own h6 hg' hr⟩) _) (ownFrom_below (Nat.le_refl _) hL)
theorem wth_none {l : Bs} (h : ∀ x ∈ (scan (nb l) 0).1, badC x = false) : wth l = match (scan (nb l) 0).2 with
    | some a => some (a, 7)
    | none => none := by
  unfold wth
  have : (scan (nb l) 0).1.find? (fun x => decide (x.2 < 32) && x.2 != 9) = none := by
    rw [List.find?_eq_none]
    intro x hx
    have := h x hx
    unfold badC at this
    rw [this]; simp
  rw [this]
  rfl
theorem wth_some {l : Bs} {d : List (Nat × Nat)} {x : Nat × Nat} (h : d ++ [x] <+: (scan (nb l) 0).1) (h1 : ∀ x ∈ d, badC x = false) (h2 : badC x = true) : wth l = some (x.1, 3) := by
  unfold wth
  have : (scan (nb l) 0).1.find? (fun x => decide (x.2 < 32) && x.2 != 9) = some x := by
    obtain ⟨t, ht⟩ := h
    rw [← ht, List.append_assoc, List.find?_append, List.find?_append]
    have hd : d.find? (fun x => decide (x.2 < 32) && x.2 != 9) = none := by
      rw [List.find?_eq_none]
      intro y hy
      have := h1 y hy
      unfold badC at this
      rw [this]; simp
    rw [hd]
    unfold badC at h2
    simp only [List.find?_cons, h2]
    rfl
  rw [this]

theorem good_snoc {pre : List (Nat × Nat)} {x : Nat × Nat} (h : ∀ x ∈ pre, badC x = false) (hx : badC x = false) : ∀ y ∈ pre ++ [x], badC y = false := by
  intro y hy
  rcases List.mem_append.1 hy with hy | hy
  · exact h y hy
  · simp at hy; subst hy; exact hx
theorem Cells.putObj {W : World} {g D : Nat} {cs : Array Value} {t : TypeId} {o o' : Obj} (h : Cells W g cs t) (hK : W.heap[D]? = some o) (ho : o.isCells = false) : Cells (W.putObj D o') g cs t := by
  have hne : g ≠ D := by
    rintro rfl
    rw [show W.heap[g]? = _ from h] at hK; cases hK; cases ho
  exact (World.putObj_heap_other hne).trans h
theorem keeps_two {W : World} {B a b : Nat} {u v : Value} (ha : a < B) (hb : b < B) : KeepsFrom B W ((W.setCell ⟨a, 0, none⟩ u).setCell ⟨b, 0, none⟩ v) :=
  ⟨by simp [World.setCell], fun k o hk ho _ => (Below.heap_setCell _ _ _ _ (by show k ≠ b; omega)).trans ((Below.heap_setCell _ _ _ _ (by show k ≠ a; omega)).trans ho)⟩
set_option maxHeartbeats 4000000 in
set_option maxRecDepth 100000 in
theorem within_any (s : ByteArray) (w : World) (hs : s.size ≤ 100000) (hT : Tab w) :
    Calls Tryd.prog 51 #[.string s] w fun e w' => e = .returned (wthV (wth s.data.toList)) ∧ Below w.heap.size w w' := by
  refine (callsIn_wide (n := 9)).1 ?_
  refine callsIn_of_wp_marks Tryd.func51 rfl trivial ?_ rfl
  simp only [Tryd.ntmps51, List.size_toArray, List.length_cons, List.length_nil, Nat.reduceAdd, Nat.reduceSub, Array.replicate_succ, Array.replicate_zero, List.push_toArray, List.append_toArray, List.nil_append, List.cons_append]
  have HA := Lib.hid (uAll_any s ((w.alloc (.cells #[.int .i64 0] 3)).alloc (.cells #[.int .i64 0] 27)))
  gi_wp2
  refine ⟨trivial, (callsIn_wide.2 HA.out).mono ?_⟩
  rintro e w1 ⟨rfl, hw1⟩
  have hb1 : Below (w.heap.size + 2) ((w.alloc (.cells #[.int .i64 0] 3)).alloc (.cells #[.int .i64 0] 27)) w1 := by
    rw [hw1]; exact (Below.refl _ _).alloc (by simp) _
  have hz : w1.heap.size = w.heap.size + 3 := by rw [hw1]; simp
  have hcB : w1.cell? ⟨w.heap.size + 2, 0, none⟩ = some (.string s) := by
    have h := World.cell?_alloc_new (w := (w.alloc (.cells #[.int .i64 0] 3)).alloc (.cells #[.int .i64 0] 27)) #[.string s] 9 0
    simp only [World.size_alloc] at h
    rw [hw1]; exact h
  have c2 : Cells w1 w.heap.size #[.int .i64 0] 3 := ((Cells.new w _ _).alloc _).below hb1 (by omega)
  have c3 : Cells w1 (w.heap.size + 1) #[.int .i64 0] 27 := by
    have h := (Cells.new (w.alloc (.cells #[.int .i64 0] 3)) #[.int .i64 0] 27).below hb1 (by simp)
    simpa using h
  have hB0 : Below w.heap.size w w1 := (((Below.refl _ w).alloc (Nat.le_refl _) _).alloc (by simp) _).trans (hb1.mono (by omega))
  have hT1 := hT.below hB0 hT.pos
  have h0w := hT.pos
  clear HA hw1
  simp only [World.size_alloc]
  gi_wp2
  have hwL : w.heap.size ≤ w1.heap.size := by omega
  refine wpIn_rangeFunc_ownG rfl (by omega) (gf := 88) (lb := #[.pointer (some ⟨w.heap.size + 2, 0, none⟩)]) rfl trivial (enters_of Tryd.func88 (by kernel_rfl) rfl)
    (uAll_stops 8 (by omega) (w.heap.size + 2) s (by omega) w1 (by omega) hcB hT1) TwoKept.trans (TwoKept.put (w.heap.size + 2) w1 (by omega) (by omega)) (Below.refl _ _) (fun _ => rfl)
    (WiI w) (WiX w) (WiI_own _ _ hwL) (WiX_own _ _ hwL)
    ⟨⟨by simp, c2, c3⟩, hB0⟩
    (fun x => { tmps := #[.string s, undef, .pointer (some ⟨w.heap.size, 0, none⟩), .pointer (some ⟨w.heap.size + 1, 0, none⟩), .int .i64 (x.1 : Nat), .int .i64 (x.2 : Nat), undef, .string s, .func (.func 88) #[] #[.pointer (some ⟨w.heap.size + 2, 0, none⟩)], .int .i64 (x.1 : Nat), .int .i64 (x.2 : Nat), undef, undef, undef, undef, undef, undef, undef, undef, undef, undef, undef, undef], defers := [] }) ?assign ?body ?done ?stop
  case assign =>
    intro l x W K hK
    gi_wp2
    exact hK
  case body =>
    rintro l0 pre x W ⟨⟨hgood, hc2, hc3⟩, hB⟩ hlt
    have hl2 := hc2.lt
    have hl3 := hc3.lt
    by_cases hx : x.2 < 32 ∧ x.2 ≠ 9
    · have d1 : decide ((x.2 : Int) < 32) = true := by rw [decide_eq_true_eq]; omega
      have d2 : ((x.2 : Int) != 9) = true := by rw [bne_iff_ne]; omega
      have hbx : badC x = true := by simp [badC, hx.1, hx.2]
      have HX := Lib.hid hbx
      have HG := Lib.hid hgood
      clear hx hgood hbx
      have hc2c0 := hc2.cell 0 _ rfl
      have hc2f0 := hc2.frozen 0
      have hc3c0 := hc3.cell 0 _ rfl
      have hc3f0 := hc3.frozen 0
      gi_wp2
      exact ⟨keeps_two (by omega) (by omega), ⟨rfl, pre, x, rfl, HG.out, HX.out, (hc2.setI 0 _).setOther _ _ (by show w.heap.size + 1 ≠ w.heap.size; omega), (hc3.setOther _ _ (by show w.heap.size ≠ w.heap.size + 1; omega)).setI 0 _⟩, (hB.setCell (Nat.le_refl _) _).setCell (by show w.heap.size ≤ w.heap.size + 1; omega) _⟩
    · have hbx : badC x = false := by
        simp only [badC, Bool.and_eq_false_iff, decide_eq_false_iff_not, bne_eq_false_iff_eq]
        omega
      have HX := Lib.hid hbx
      have HG := Lib.hid hgood
      have hr : 32 ≤ x.2 ∨ x.2 = 9 := by omega
      clear hx hgood hbx
      rcases hr with hr | hr
      · have d1 : decide ((x.2 : Int) < 32) = false := by rw [decide_eq_false_iff_not]; omega
        gi_wp2
        exact ⟨KeepsFrom.refl _ _, TwoKept.refl _ _, ⟨good_snoc HG.out HX.out, hc2, hc3⟩, hB⟩
      · have d1 : decide ((x.2 : Int) < 32) = true := by rw [decide_eq_true_eq]; omega
        have d2 : ((x.2 : Int) != 9) = false := by rw [bne_eq_false_iff_eq]; omega
        gi_wp2
        exact ⟨KeepsFrom.refl _ _, TwoKept.refl _ _, ⟨good_snoc HG.out HX.out, hc2, hc3⟩, hB⟩
  case done =>
    rintro D ys W hD rfl ⟨⟨hgood, hc2, hc3⟩, hB⟩ hK
    have hTW := hT.below hB hT.pos
    have hBa := Bad_any s W hTW (by omega)
    have hW := wth_none (l := s.data.toList) hgood
    have hl2 := hc2.lt
    have hl3 := hc3.lt
    rw [show nb s.data.toList = bs s from rfl] at hW
    cases ho : (scan (bs s) 0).2 with
    | none =>
      rw [ho] at hBa hW
      have HW := Lib.hid hW
      clear hW hgood ho
      simp only [badV] at hBa
      have hc2c0 := hc2.cell 0 _ rfl
      have hc2f0 := hc2.frozen 0
      have hc3c0 := hc3.cell 0 _ rfl
      have hc3f0 := hc3.frozen 0
      gi_wp2
      refine ⟨trivial, (callsIn_wide.2 hBa).mono ?_⟩
      rintro e w3 ⟨rfl, rfl⟩
      gi_wp2
      have hK2 : ((W.setCell ⟨w.heap.size, 0, none⟩ (.int .i64 0)).setCell ⟨w.heap.size + 1, 0, none⟩ (.int .i64 0)).heap[D]? = some (Obj.deferred (some [])) := (Below.heap_setCell _ _ _ _ (by show D ≠ w.heap.size + 1; omega)).trans ((Below.heap_setCell _ _ _ _ (by show D ≠ w.heap.size; omega)).trans hK)
      refine ⟨by simp, .inl ⟨_, _, rfl, run_takeDeferred hK2, ?_⟩⟩
      have e2 := (((hc2.setI 0 (.int .i64 0)).setOther ⟨w.heap.size + 1, 0, none⟩ (.int .i64 0) (by show w.heap.size + 1 ≠ w.heap.size; omega)).putObj (o' := .deferred none) hK2 rfl).cell 0 _ rfl
      have e3 := (((hc3.setOther ⟨w.heap.size, 0, none⟩ (.int .i64 0) (by show w.heap.size ≠ w.heap.size + 1; omega)).setI 0 (.int .i64 0)).putObj (o' := .deferred none) hK2 rfl).cell 0 _ rfl
      refine ⟨wthV none, by simp [results, Tryd.results51, go_sem, wthV, e2, e3], by rw [HW.out], ?_⟩
      exact ((hB.setCell (p := ⟨w.heap.size, 0, none⟩) (Nat.le_refl _) _).setCell (p := ⟨w.heap.size + 1, 0, none⟩) (by show w.heap.size ≤ w.heap.size + 1; omega) _).trans (belowK_b (w := w) (Nat.le_refl _) _ D _ _ (by omega) hK2 rfl rfl)
    | some a =>
      rw [ho] at hBa hW
      have HW := Lib.hid hW
      clear hW hgood ho
      simp only [badV] at hBa
      have hc2c0 := hc2.cell 0 _ rfl
      have hc2f0 := hc2.frozen 0
      have hc3c0 := hc3.cell 0 _ rfl
      have hc3f0 := hc3.frozen 0
      gi_wp2
      refine ⟨trivial, (callsIn_wide.2 hBa).mono ?_⟩
      rintro e w3 ⟨rfl, rfl⟩
      gi_wp2
      have hK2 : ((W.setCell ⟨w.heap.size, 0, none⟩ (.int .i64 (a : Int))).setCell ⟨w.heap.size + 1, 0, none⟩ (.int .i64 7)).heap[D]? = some (Obj.deferred (some [])) := (Below.heap_setCell _ _ _ _ (by show D ≠ w.heap.size + 1; omega)).trans ((Below.heap_setCell _ _ _ _ (by show D ≠ w.heap.size; omega)).trans hK)
      refine ⟨by simp, .inl ⟨_, _, rfl, run_takeDeferred hK2, ?_⟩⟩
      have e2 := (((hc2.setI 0 (.int .i64 (a : Int))).setOther ⟨w.heap.size + 1, 0, none⟩ (.int .i64 7) (by show w.heap.size + 1 ≠ w.heap.size; omega)).putObj (o' := .deferred none) hK2 rfl).cell 0 _ rfl
      have e3 := (((hc3.setOther ⟨w.heap.size, 0, none⟩ (.int .i64 (a : Int)) (by show w.heap.size ≠ w.heap.size + 1; omega)).setI 0 (.int .i64 7)).putObj (o' := .deferred none) hK2 rfl).cell 0 _ rfl
      refine ⟨wthV (some (a, 7)), by simp [results, Tryd.results51, go_sem, wthV, e2, e3], by rw [HW.out], ?_⟩
      exact ((hB.setCell (p := ⟨w.heap.size, 0, none⟩) (Nat.le_refl _) _).setCell (p := ⟨w.heap.size + 1, 0, none⟩) (by show w.heap.size ≤ w.heap.size + 1; omega) _).trans (belowK_b (w := w) (Nat.le_refl _) _ D _ _ (by omega) hK2 rfl rfl)
  case stop =>
    rintro D c pre W hD hpre ⟨⟨rfl, d, x, rfl, h1, h2, hc2, hc3⟩, hB⟩ hK
    have hW := wth_some (l := s.data.toList) hpre h1 h2
    have hl2 := hc2.lt
    have hl3 := hc3.lt
    have hc2c0 := hc2.cell 0 _ rfl
    have hc2f0 := hc2.frozen 0
    have hc3c0 := hc3.cell 0 _ rfl
    have hc3f0 := hc3.frozen 0
    gi_wp2
    refine ⟨by simp, .inl ⟨_, _, rfl, run_takeDeferred hK, ?_⟩⟩
    have e2 := (hc2.putObj (o' := .deferred none) hK rfl).cell 0 _ rfl
    have e3 := (hc3.putObj (o' := .deferred none) hK rfl).cell 0 _ rfl
    refine ⟨wthV (some (x.1, 3)), by simp [results, Tryd.results51, go_sem, wthV, e2, e3], by rw [hW], ?_⟩
    exact hB.trans (belowK_b (w := w) (Nat.le_refl _) W D _ _ (by omega) hK rfl rfl)
end Go.Proofs.YtjlikcfabekhlaaDoor

/- What Parse finds in a number's text (layer 6), plain. -/
namespace Go.Proofs.YtjlikcfabekhlaaDoor

theorem idxAny_none {ch : Bs} : ∀ {l : Bs}, (∀ x ∈ l, ch.contains x = false) → Lib.indexAny l ch = -1
  | [], _ => rfl
  | b :: l, h => by
    rw [Lib.indexAny, h b (List.mem_cons_self ..), idxAny_none (fun x hx => h x (List.mem_cons_of_mem _ hx))]
    rfl
theorem idxAny_at {ch : Bs} {m : UInt8} {t : Bs} (hm : ch.contains m = true) : ∀ {l : Bs}, (∀ x ∈ l, ch.contains x = false) → Lib.indexAny (l ++ m :: t) ch = l.length
  | [], _ => by rw [List.nil_append, Lib.indexAny, if_pos hm]; rfl
  | b :: l, h => by
    rw [List.cons_append, Lib.indexAny, h b (List.mem_cons_self ..), idxAny_at hm (fun x hx => h x (List.mem_cons_of_mem _ hx))]
    have : (((l.length : Nat) : Int) == -1) = false := by rw [beq_eq_false_iff_ne]; omega
    rw [this]
    simp
theorem idxB_none {c : UInt8} : ∀ {l : Bs}, (∀ x ∈ l, x ≠ c) → Lib.indexByte l c = -1
  | [], _ => rfl
  | b :: l, h => by
    have h1 : (b == c) = false := by rw [beq_eq_false_iff_ne]; exact h b (List.mem_cons_self ..)
    rw [Lib.indexByte, h1, idxB_none (fun x hx => h x (List.mem_cons_of_mem _ hx))]
    rfl
theorem idxB_at {c : UInt8} {t : Bs} : ∀ {l : Bs}, (∀ x ∈ l, x ≠ c) → Lib.indexByte (l ++ c :: t) c = l.length
  | [], _ => by rw [List.nil_append, Lib.indexByte, if_pos (by simp)]; rfl
  | b :: l, h => by
    have h1 : (b == c) = false := by rw [beq_eq_false_iff_ne]; exact h b (List.mem_cons_self ..)
    rw [List.cons_append, Lib.indexByte, h1, idxB_at (fun x hx => h x (List.mem_cons_of_mem _ hx))]
    have : (((l.length : Nat) : Int) == -1) = false := by rw [beq_eq_false_iff_ne]; omega
    rw [this]
    simp
/-- The digits, with their point. -/
def frontT (ip fr : Bs) : Bs := ip ++ (if fr = [] then [] else 46 :: fr)
section
variable {l : Bs} {neg : Bool} {ip fr mk sg pw : Bs}
theorem NumTxt.eq' (h : NumTxt l neg ip fr mk sg pw) : l = (if neg then [45] else []) ++ (frontT ip fr ++ (mk ++ (sg ++ pw))) := by
  rw [frontT, List.append_assoc]; exact h.eq
theorem NumTxt.front_mem (h : NumTxt l neg ip fr mk sg pw) {x : UInt8} (hx : x ∈ frontT ip fr) : dg x = true ∨ x = 46 := by
  rw [frontT, List.mem_append] at hx
  rcases hx with hx | hx
  · exact .inl (List.all_eq_true.1 h.dip x hx)
  · by_cases hf : fr = []
    · rw [if_pos hf] at hx; simp at hx
    · rw [if_neg hf] at hx
      rcases List.mem_cons.1 hx with rfl | hx
      · exact .inr rfl
      · exact .inl (List.all_eq_true.1 h.dfr x hx)
theorem NumTxt.front_any (h : NumTxt l neg ip fr mk sg pw) : ∀ x ∈ frontT ip fr, ([101, 69] : Bs).contains x = false := by
  intro x hx
  have h3 : x ≠ 101 ∧ x ≠ 69 := by
    rcases h.front_mem hx with h1 | rfl
    · exact ⟨dg_ne h1 (by decide), dg_ne h1 (by decide)⟩
    · decide
  simp [h3.1, h3.2]
theorem NumTxt.cut (h : NumTxt l neg ip fr mk sg pw) : Lib.hasPrefix l [45] = neg ∧ Lib.trimPrefix l [45] = frontT ip fr ++ (mk ++ (sg ++ pw)) := by
  have he := h.eq'
  have hm : neg = false → Lib.hasPrefix l [45] = false := by
    intro hn
    subst hn
    rw [he]
    have hi := h.ip0
    have hd := h.dip
    rw [frontT]
    cases ip with
    | nil => exact absurd rfl hi
    | cons c p =>
      have hc := all_head hd (c := c) rfl
      show ([45] : Bs).isPrefixOf (c :: _) = false
      have : ((45 : UInt8) == c) = false := by rw [beq_eq_false_iff_ne]; exact (dg_ne hc (by decide)).symm
      simp [List.isPrefixOf, this]
  cases neg with
  | true =>
    have : Lib.hasPrefix l [45] = true := by rw [he]; rfl
    exact ⟨this, by rw [Lib.trimPrefix, if_pos this, he]; rfl⟩
  | false =>
    have := hm rfl
    exact ⟨this, by rw [Lib.trimPrefix, this, he]; rfl⟩
theorem NumTxt.mark_none (h : NumTxt l neg ip fr mk sg pw) (hm : mk = []) : Lib.indexAny (frontT ip fr ++ (mk ++ (sg ++ pw))) [101, 69] = -1 ∧ frontT ip fr ++ (mk ++ (sg ++ pw)) = frontT ip fr ∧ powP sg pw = 0 := by
  rcases h.exp with ⟨rfl, rfl, rfl⟩ | ⟨hm2, _, _⟩
  · simp only [List.append_nil]
    exact ⟨idxAny_none h.front_any, trivial, rfl⟩
  · subst hm; simp at hm2
theorem NumTxt.mark_some (h : NumTxt l neg ip fr mk sg pw) (hm : mk ≠ []) : Lib.indexAny (frontT ip fr ++ (mk ++ (sg ++ pw))) [101, 69] = (frontT ip fr).length ∧ (∃ m, mk = [m]) ∧ (sg = [] ∨ sg = [43] ∨ sg = [45]) ∧ pw ≠ [] := by
  rcases h.exp with ⟨rfl, _, _⟩ | ⟨hm2, hs, hp⟩
  · exact absurd rfl hm
  · rcases hm2 with rfl | rfl
    · exact ⟨idxAny_at rfl h.front_any, ⟨_, rfl⟩, hs, hp⟩
    · exact ⟨idxAny_at rfl h.front_any, ⟨_, rfl⟩, hs, hp⟩
theorem NumTxt.point_none (h : NumTxt l neg ip fr mk sg pw) (hf : fr = []) : Lib.indexByte (frontT ip fr) 46 = -1 ∧ frontT ip fr = ip ++ fr := by
  subst hf
  have : frontT ip [] = ip := by simp [frontT]
  rw [this]
  exact ⟨idxB_none (fun x hx => dg_ne (List.all_eq_true.1 h.dip x hx) (by decide)), by simp⟩
theorem NumTxt.point_some (h : NumTxt l neg ip fr mk sg pw) (hf : fr ≠ []) : Lib.indexByte (frontT ip fr) 46 = ip.length ∧ frontT ip fr = ip ++ 46 :: fr := by
  have : frontT ip fr = ip ++ 46 :: fr := by rw [frontT, if_neg hf]
  rw [this]
  exact ⟨idxB_at (fun x hx => dg_ne (List.all_eq_true.1 h.dip x hx) (by decide)), rfl⟩
theorem NumTxt.len (h : NumTxt l neg ip fr mk sg pw) : ip.length + fr.length ≤ l.length ∧ (frontT ip fr ++ (mk ++ (sg ++ pw))).length ≤ l.length ∧ (frontT ip fr).length ≤ l.length ∧ (fr ≠ [] → (frontT ip fr).length = ip.length + fr.length + 1) := by
  have he := congrArg List.length h.eq'
  have hf : (frontT ip fr).length = ip.length + (if fr = [] then 0 else fr.length + 1) := by
    rw [frontT, List.length_append]
    split <;> simp
  rw [List.length_append] at he
  have h2 : (frontT ip fr ++ (mk ++ (sg ++ pw))).length = (frontT ip fr).length + (mk ++ (sg ++ pw)).length := by rw [List.length_append]
  refine ⟨?_, by omega, by omega, fun h3 => ?_⟩
  · by_cases hfr : fr = []
    · subst hfr; simp at hf ⊢; omega
    · rw [if_neg hfr] at hf; omega
  · rw [hf, if_neg h3]; omega
theorem NumTxt.ascii (h : NumTxt l neg ip fr mk sg pw) : ∀ x ∈ frontT ip fr ++ (mk ++ (sg ++ pw)), x.toNat < 128 := by
  have hall : ∀ {a : Bs}, a.all dg = true → ∀ x ∈ a, x.toNat < 128 := fun ha x hx => by have := dg_lt (List.all_eq_true.1 ha x hx); omega
  intro x hx
  rcases List.mem_append.1 hx with hx | hx
  · rcases h.front_mem hx with h1 | rfl
    · have := dg_lt h1; omega
    · decide
  · rcases List.mem_append.1 hx with hx | hx
    · rcases h.exp with ⟨rfl, rfl, rfl⟩ | ⟨hm, hs, hp⟩
      · simp at hx
      · rcases hm with rfl | rfl <;> (simp at hx; subst hx; decide)
    · rcases List.mem_append.1 hx with hx | hx
      · rcases h.exp with ⟨rfl, rfl, rfl⟩ | ⟨hm, hs, hp⟩
        · simp at hx
        · rcases hs with rfl | rfl | rfl
          · simp at hx
          · simp at hx; subst hx; decide
          · simp at hx; subst hx; decide
      · exact hall h.dpw x hx
end
end Go.Proofs.YtjlikcfabekhlaaDoor

/- The walk of Scan (layer 6), this side's: the automaton over its table of steps. -/
namespace Go.Proofs.YtjlikcfabekhlaaDoor
open Go.RowKit Go.Tab

/-- The table of steps, as the program lays it. -/
def TabS (w : World) : Prop := ∀ j : Nat, j < 63 → w.cell? ⟨2, j, none⟩ = some (.int .i64 (stepsN.getD j 9 : Nat))
theorem TabS.below {w w' : World} {B : Nat} (h : TabS w) (hb : Below B w w') (hB : 2 < B) : TabS w' := fun j hj => (hb.cell hB).trans (h j hj)
theorem TabS.pos {w : World} (h : TabS w) : 2 < w.heap.size := World.block_lt_of_cell? w _ (h 0 (by decide))

theorem u8_nb {c : UInt8} {n : UInt8} (h : c ≠ n) {m : Int} (hm : (n.toNat : Int) = m) : ((c.toNat : Int) == m) = false := by
  rw [beq_eq_false_iff_ne, ← hm]
  exact fun e => h (UInt8.toNat_inj.1 (by omega))
set_option maxHeartbeats 2000000 in
set_option maxRecDepth 100000 in
theorem signOf_any (c : UInt8) (w : World) : Calls Tryd.prog 54 #[.int .u8 c.toNat] w fun e w' => e = .returned (.int .i64 (signN c : Nat)) ∧ w = w' := by
  unfold signN
  by_cases h1 : c = 45
  · subst h1
    go_enter Tryd.func54, Tryd.ntmps54
    go_wp2
    go_ret
    exact ⟨rfl, rfl⟩
  have d1 := u8_nb h1 (m := 45) rfl
  by_cases h2 : c = 43
  · subst h2
    go_enter Tryd.func54, Tryd.ntmps54
    go_wp2
    go_ret
    exact ⟨rfl, rfl⟩
  have d2 := u8_nb h2 (m := 43) rfl
  by_cases h3 : c = 48
  · subst h3
    go_enter Tryd.func54, Tryd.ntmps54
    go_wp2
    go_ret
    exact ⟨rfl, rfl⟩
  have d3 := u8_nb h3 (m := 48) rfl
  rw [if_neg h1, if_neg h2, if_neg h3]
  by_cases h4 : 49 ≤ c.toNat ∧ c.toNat ≤ 57
  · rw [if_pos h4]
    go_enter Tryd.func54, Tryd.ntmps54
    go_wp2
    go_ret
    exact ⟨rfl, rfl⟩
  rw [if_neg h4]
  have H4 : c.toNat < 49 ∨ (49 ≤ c.toNat ∧ 57 < c.toNat) := by omega
  clear h4
  by_cases h5 : c = 46
  · subst h5
    clear H4
    go_enter Tryd.func54, Tryd.ntmps54
    go_wp2
    go_ret
    exact ⟨rfl, rfl⟩
  have d5 := u8_nb h5 (m := 46) rfl
  rw [if_neg h5]
  by_cases h6 : c = 101
  · subst h6
    clear H4
    go_enter Tryd.func54, Tryd.ntmps54
    go_wp2
    go_ret
    exact ⟨rfl, rfl⟩
  by_cases h7 : c = 69
  · subst h7
    clear H4
    go_enter Tryd.func54, Tryd.ntmps54
    go_wp2
    go_ret
    exact ⟨rfl, rfl⟩
  have d6 := u8_nb h6 (m := 101) rfl
  have d7 := u8_nb h7 (m := 69) rfl
  rw [if_neg (by simp [h6, h7])]
  clear h1 h2 h3 h5 h6 h7
  rcases H4 with h4 | ⟨h4, h8⟩
  all_goals
    go_enter Tryd.func54, Tryd.ntmps54
    go_wp2
    go_ret
    exact ⟨rfl, rfl⟩

theorem whole_yes (st : Nat) (w : World) (h : wholeB st = true) : Calls Tryd.prog 55 #[.int .i64 st] w fun e w' => e = .returned (.bool true) ∧ w = w' := by
  have h1 : st = 2 ∨ st = 3 ∨ st = 5 ∨ st = 8 := by simpa [wholeB] using h
  clear h
  rcases h1 with rfl | rfl | rfl | rfl
  all_goals
    go_enter Tryd.func55, Tryd.ntmps55
    go_wp2
    go_ret
    exact ⟨rfl, rfl⟩
theorem whole_no (st : Nat) (w : World) (h : wholeB st = false) (hs : st < 9) : Calls Tryd.prog 55 #[.int .i64 st] w fun e w' => e = .returned (.bool false) ∧ w = w' := by
  have h1 : st = 0 ∨ st = 1 ∨ st = 4 ∨ st = 6 ∨ st = 7 := by
    have h2 : ¬ (st = 2 ∨ st = 3 ∨ st = 5 ∨ st = 8) := by
      intro h3
      have : wholeB st = true := by simpa [wholeB] using h3
      rw [h] at this; cases this
    omega
  clear h hs
  rcases h1 with rfl | rfl | rfl | rfl | rfl
  all_goals
    go_enter Tryd.func55, Tryd.ntmps55
    go_wp2
    go_ret
    exact ⟨rfl, rfl⟩
theorem stepN_le : ∀ st : Fin 9, ∀ sg : Fin 7, stepN st.val sg.val ≤ 9 := by decide
theorem signN_lt (c : UInt8) : signN c < 7 := by cases sort6 c <;> omega
theorem drop_at {s : ByteArray} {k : Nat} (h : k < s.size) : s.data.toList.drop k = s[k]'h :: s.data.toList.drop (k + 1) := by
  rw [List.drop_eq_getElem_cons (by simpa using h)]
  rfl

set_option maxHeartbeats 4000000 in
set_option maxRecDepth 100000 in
theorem Scan_any (s : ByteArray) (w : World) (hT : TabS w) (hs : s.size ≤ maxLen) :
    Calls Tryd.prog 42 #[.string s] w fun e w' => e = .returned (.int .i64 (scanN s.data.toList : Nat)) ∧ ∃ n, w' = w.drewN n := by
  unfold maxLen at hs
  go_enter Tryd.func42, Tryd.ntmps42
  go_wp2_with fail
  go_loopw [3, 4, 8] (fun g t i wr => ∃ k st L : Nat, k ≤ s.size ∧ i = .int .i64 k ∧ t = .int .i64 st ∧ g = .int .i64 L ∧ st < 9 ∧ autoS st k L (s.data.toList.drop k) = scanN s.data.toList ∧ ∃ n, wr = w.drewN n) (fun _ _ i _ => s.size - (intOf i).toNat)
  case atStart => exact ⟨0, 0, 0, Nat.zero_le _, rfl, rfl, rfl, by decide, auto_scan _, 0, rfl⟩
  case round =>
    obtain ⟨k, st, L, hk, rfl, rfl, rfl, hst, ha, n, rfl⟩ := hrel
    have HA := Lib.hid ha
    clear ha
    by_cases hlt : k < s.size
    · have hsg := signN_lt (s[k]'hlt)
      have hF := signOf_any (s[k]'hlt)
      have hi : (st : Int) < 9 := by omega
      have hj : ((signN (s[k]'hlt) : Nat) : Int) < 7 := by omega
      have hc : w.cell? ⟨2, st * 7 + signN (s[k]'hlt), none⟩ = some (.int .i64 (stepN st (signN (s[k]'hlt)) : Nat)) := by rw [Nat.mul_comm]; exact hT _ (by omega)
      have hA := HA.out
      rw [drop_at hlt, auto_cons] at hA
      have hle := stepN_le ⟨st, hst⟩ ⟨_, hsg⟩
      simp only at hle
      generalize signN (s[k]'hlt) = sg at hF hc hA hle hsg hj
      generalize stepN st sg = st' at hc hA hle
      go_wp2_with fail
      by_cases h9 : st' = 9
      · rw [if_pos h9] at hA
        have HL := Lib.hid hA
        have d9 : ((st' : Int) == 9) = true := by rw [beq_iff_eq]; omega
        clear hA h9 hle
        go_quiet (exact (hF _).mono fun _ _ h => ⟨h.1, _, h.2.symm⟩)
        go_wp2
        go_ret
        exact ⟨by rw [← HL.out]; rfl, _, rfl⟩
      · rw [if_neg h9] at hA
        have d9 : ((st' : Int) == 9) = false := by rw [beq_eq_false_iff_ne]; omega
        have hlt9 : st' < 9 := by omega
        clear h9 hle
        by_cases hw : wholeB st' = true
        · rw [if_pos hw] at hA
          have HL := Lib.hid hA
          have hW := fun W => whole_yes st' W hw
          clear hA hw
          go_quiet (exact (hF _).mono fun _ _ h => ⟨h.1, _, h.2.symm⟩)
          go_wp2_with ((with_reducible refine (hW _).mono ?_); rintro _ _ ⟨rfl, rfl⟩)
          go_roundw
          case rel => exact ⟨k + 1, st', k + 1, by omega, by go_num, rfl, by go_num, hlt9, HL.out, _, rfl⟩
          case measure => simp [intOf]; omega
        · have hw' : wholeB st' = false := by simpa using hw
          rw [if_neg hw] at hA
          have HL := Lib.hid hA
          have hW := fun W => whole_no st' W hw' hlt9
          clear hA hw hw'
          go_quiet (exact (hF _).mono fun _ _ h => ⟨h.1, _, h.2.symm⟩)
          go_wp2_with ((with_reducible refine (hW _).mono ?_); rintro _ _ ⟨rfl, rfl⟩)
          go_roundw
          case rel => exact ⟨k + 1, st', L, by omega, by go_num, rfl, rfl, hlt9, HL.out, _, rfl⟩
          case measure => simp [intOf]; omega
    · obtain rfl : k = s.size := by omega
      have hl : s.data.toList.drop s.size = [] := by
        rw [List.drop_eq_nil_iff]; exact Nat.le_refl _
      have hA := HA.out
      rw [hl] at hA
      have HL := Lib.hid (show L = scanN s.data.toList from hA)
      clear hA HA hl
      go_wp2
      go_ret
      exact ⟨by rw [← HL.out]; rfl, _, rfl⟩
end Go.Proofs.YtjlikcfabekhlaaDoor

/- The walk of powerOf (layer 6): a power's digits, up to a bound. -/
namespace Go.Proofs.YtjlikcfabekhlaaDoor
open Go.RowKit Go.Tab

theorem foldP_lt : ∀ (l : Bs) (n : Nat), n ≤ 1099511627776 → l.foldl addP n ≤ 1099511627776
  | [], _, h => h
  | c :: l, n, _ => by
    rw [List.foldl_cons]
    exact foldP_lt l _ (Nat.min_le_right _ _)
theorem foldl_take {α β : Type} (f : α → β → α) (a : α) (l : List β) {k : Nat} (h : k < l.length) : (l.take (k + 1)).foldl f a = f ((l.take k).foldl f a) l[k] := by
  rw [List.take_add_one, List.getElem?_eq_getElem h, List.foldl_append]
  rfl

theorem neg_end (pw : Bs) (n : Nat) (h : pw.foldl addP 0 ≤ n) (hn : n ≤ 1099511627776 := by omega) : Ending.returned (Value.int .i64 (wrap64 (-((pw.foldl addP 0 : Nat) : Int)))) = Ending.returned (Value.int .i64 (powP [45] pw)) := by
  rw [powP, sgn, if_pos rfl]
  congr 2
  unfold wrap64
  omega



set_option maxHeartbeats 4000000 in
set_option maxRecDepth 100000 in
theorem powerOf_any (S : ByteArray) (sg pw : Bs) (w : World) (hS : S.data.toList = sg ++ pw) (hsg : sg = [] ∨ sg = [43] ∨ sg = [45]) (hd : pw.all dg = true) (h0 : pw ≠ []) (hl : S.size ≤ 1048576) :
    Calls Tryd.prog 58 #[.string S] w fun e w' => e = .returned (.int .i64 (powP sg pw)) ∧ w = w' := by
  have hdp := Lib.hid hd
  have hz : 0 < pw.length := List.length_pos_iff.2 h0
  have hs0 := size_list S
  rw [hS, List.length_append] at hs0
  rcases hsg with rfl | rfl | rfl
  · have hRs : Hid (S.size = pw.length) := Lib.hid (by simpa using hs0)
    have hpos : 0 < S.size := by rw [hRs.out]; exact hz
    have hRg : ∀ k (h1 : k < S.size) (h2 : k < pw.length), S[k]'h1 = pw[k] := fun k h1 h2 => by
      rw [get_list]
      have := congrArg (fun l => l[k]?) hS
      simp only [List.nil_append] at this
      rw [List.getElem?_eq_getElem h2, List.getElem?_eq_getElem (by rw [← size_list]; exact h1)] at this
      exact Option.some.inj this
    have HR := Lib.hid hRg
    clear hRg
    have h1 := HR.out 0 hpos hz
    have h2 := dg_lt (List.all_eq_true.1 hd pw[0] (List.getElem_mem _))
    have d1 : (((S[0]'hpos).toNat : Int) == 45) = false := by rw [h1, beq_eq_false_iff_ne]; omega
    have d2 : (((S[0]'hpos).toNat : Int) == 43) = false := by rw [h1, beq_eq_false_iff_ne]; omega
    clear h1 h2 hd h0 hs0 hS
    go_enter Tryd.func58, Tryd.ntmps58
    go_wp2_with fail
    go_loop [4, 19] (fun n i => ∃ k : Nat, k ≤ S.size ∧ i = .int .i64 k ∧ n = .int .i64 ((pw.take k).foldl addP 0 : Nat)) (fun _ i => S.size - (intOf i).toNat)
    case atStart => exact ⟨0, Nat.zero_le _, rfl, rfl⟩
    case round =>
      obtain ⟨k, hk, rfl, rfl⟩ := hrel
      by_cases hlt : k < S.size
      · have hkp : k < pw.length := by rw [← hRs.out]; exact hlt
        have hb := foldP_lt (pw.take k) 0 (by omega)
        have hf := Lib.hid (foldl_take addP 0 pw hkp)
        have hg : S[k]'hlt = pw[k] := HR.out k hlt hkp
        have hd := dg_lt (List.all_eq_true.1 hdp.out pw[k] (List.getElem_mem _))
        have hF : Hid (addP ((pw.take k).foldl addP 0) pw[k] = (pw.take (k + 1)).foldl addP 0) := Lib.hid hf.out.symm
        clear hf
        generalize (pw.take k).foldl addP 0 = m at hb hF ⊢
        generalize pw[k] = c at hg hd hF
        clear hkp
        go_wp2
        go_round
        case rel => exact ⟨k + 1, by omega, by go_num, by rw [← hF.out]; congr 1; unfold addP; omega⟩
        case measure => simp [intOf]; omega
      · obtain rfl : k = S.size := by omega
        have hf : Hid (pw.take S.size = pw) := Lib.hid (by rw [hRs.out]; exact List.take_length)
        go_wp2
        go_ret
        refine ⟨?_, rfl⟩
        rw [hf.out]
        rfl
  · have hpos : 0 < S.size := by rw [hs0]; simp; omega
    have hfst : S[0]'hpos = 43 := by
      rw [get_list]
      have := congrArg (fun l => l[0]?) hS
      rw [List.singleton_append] at this
      simp only [List.getElem?_cons_zero] at this
      rw [List.getElem?_eq_getElem (by rw [← size_list]; exact hpos)] at this
      exact Option.some.inj this
    obtain ⟨R, hR⟩ : ∃ R, S.extract 1 S.size = R := ⟨_, rfl⟩
    have hRl : R.data.toList = pw := by
      rw [← hR, ext_list, size_list, List.take_length, hS]; rfl
    have hRs : Hid (R.size = pw.length) := Lib.hid (by rw [size_list, hRl])
    have hle : R.size ≤ 1048576 := by rw [hRs.out]; simp at hs0; omega
    have hsz : S.size = R.size + 1 := by rw [hRs.out, hs0]; simp; omega
    have HR : Hid (∀ k (h1 : k < R.size) (h2 : k < pw.length), R[k]'h1 = pw[k]) := Lib.hid (fun k h1 h2 => by
      subst hRl; rfl)
    have HS := Lib.hid hsz
    have h1S : 1 ≤ S.size := by omega
    have d1 : (((S[0]'hpos).toNat : Int) == 45) = decide (43 = 45) := by rw [hfst]; rfl
    have d2 : (((S[0]'hpos).toNat : Int) == 43) = decide (43 = 43) := by rw [hfst]; rfl
    have hlen : S.size - 1 = R.size := by omega
    clear hd h0 hs0 hS hfst hRl hsz
    go_enter Tryd.func58, Tryd.ntmps58
    go_wp2_with fail
    go_loop [4, 19] (fun n i => ∃ k : Nat, k ≤ R.size ∧ i = .int .i64 k ∧ n = .int .i64 ((pw.take k).foldl addP 0 : Nat)) (fun _ i => R.size - (intOf i).toNat)
    case atStart => exact ⟨0, Nat.zero_le _, rfl, rfl⟩
    case round =>
      obtain ⟨k, hk, rfl, rfl⟩ := hrel
      by_cases hlt : k < R.size
      · have hkp : k < pw.length := by rw [← hRs.out]; exact hlt
        have hb := foldP_lt (pw.take k) 0 (by omega)
        have hf := Lib.hid (foldl_take addP 0 pw hkp)
        have hg : R[k]'hlt = pw[k] := HR.out k hlt hkp
        have hd := dg_lt (List.all_eq_true.1 hdp.out pw[k] (List.getElem_mem _))
        have hF : Hid (addP ((pw.take k).foldl addP 0) pw[k] = (pw.take (k + 1)).foldl addP 0) := Lib.hid hf.out.symm
        clear hf
        generalize (pw.take k).foldl addP 0 = m at hb hF ⊢
        generalize pw[k] = c at hg hd hF
        clear hkp
        go_wp2
        go_round
        case rel => exact ⟨k + 1, by omega, by go_num, by rw [← hF.out]; congr 1; unfold addP; omega⟩
        case measure => simp [intOf]; omega
      · obtain rfl : k = R.size := by omega
        have hf : Hid (pw.take R.size = pw) := Lib.hid (by rw [hRs.out]; exact List.take_length)
        go_wp2
        go_ret
        refine ⟨?_, rfl⟩
        rw [hf.out]
        rfl
  · have hpos : 0 < S.size := by rw [hs0]; simp; omega
    have hfst : S[0]'hpos = 45 := by
      rw [get_list]
      have := congrArg (fun l => l[0]?) hS
      rw [List.singleton_append] at this
      simp only [List.getElem?_cons_zero] at this
      rw [List.getElem?_eq_getElem (by rw [← size_list]; exact hpos)] at this
      exact Option.some.inj this
    obtain ⟨R, hR⟩ : ∃ R, S.extract 1 S.size = R := ⟨_, rfl⟩
    have hRl : R.data.toList = pw := by
      rw [← hR, ext_list, size_list, List.take_length, hS]; rfl
    have hRs : Hid (R.size = pw.length) := Lib.hid (by rw [size_list, hRl])
    have hle : R.size ≤ 1048576 := by rw [hRs.out]; simp at hs0; omega
    have hsz : S.size = R.size + 1 := by rw [hRs.out, hs0]; simp; omega
    have HR : Hid (∀ k (h1 : k < R.size) (h2 : k < pw.length), R[k]'h1 = pw[k]) := Lib.hid (fun k h1 h2 => by
      subst hRl; rfl)
    have HS := Lib.hid hsz
    have h1S : 1 ≤ S.size := by omega
    have d1 : (((S[0]'hpos).toNat : Int) == 45) = decide (45 = 45) := by rw [hfst]; rfl
    have d2 : (((S[0]'hpos).toNat : Int) == 43) = decide (45 = 43) := by rw [hfst]; rfl
    have hlen : S.size - 1 = R.size := by omega
    clear hd h0 hs0 hS hfst hRl hsz
    go_enter Tryd.func58, Tryd.ntmps58
    go_wp2_with fail
    go_loop [4, 19] (fun n i => ∃ k : Nat, k ≤ R.size ∧ i = .int .i64 k ∧ n = .int .i64 ((pw.take k).foldl addP 0 : Nat)) (fun _ i => R.size - (intOf i).toNat)
    case atStart => exact ⟨0, Nat.zero_le _, rfl, rfl⟩
    case round =>
      obtain ⟨k, hk, rfl, rfl⟩ := hrel
      by_cases hlt : k < R.size
      · have hkp : k < pw.length := by rw [← hRs.out]; exact hlt
        have hb := foldP_lt (pw.take k) 0 (by omega)
        have hf := Lib.hid (foldl_take addP 0 pw hkp)
        have hg : R[k]'hlt = pw[k] := HR.out k hlt hkp
        have hd := dg_lt (List.all_eq_true.1 hdp.out pw[k] (List.getElem_mem _))
        have hF : Hid (addP ((pw.take k).foldl addP 0) pw[k] = (pw.take (k + 1)).foldl addP 0) := Lib.hid hf.out.symm
        clear hf
        generalize (pw.take k).foldl addP 0 = m at hb hF ⊢
        generalize pw[k] = c at hg hd hF
        clear hkp
        go_wp2
        go_round
        case rel => exact ⟨k + 1, by omega, by go_num, by rw [← hF.out]; congr 1; unfold addP; omega⟩
        case measure => simp [intOf]; omega
      · obtain rfl : k = R.size := by omega
        have hf : Hid (pw.take R.size = pw) := Lib.hid (by rw [hRs.out]; exact List.take_length)
        go_wp2
        go_ret
        refine ⟨?_, rfl⟩
        rw [hf.out]
        exact neg_end _ _ (foldP_lt pw 0 (by omega))
end Go.Proofs.YtjlikcfabekhlaaDoor
