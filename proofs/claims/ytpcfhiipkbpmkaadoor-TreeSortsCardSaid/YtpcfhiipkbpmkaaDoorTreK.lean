/- The walks that hold two values against each other: this side's (layer 8). -/
import Derived.Test.YtpcfhiipkbpmkaaDoorTreE
namespace Go.Proofs.YtpcfhiipkbpmkaaDoor
open Go.RowKit Go.Tab

/-- An answer, right just if so. -/
def SameP (p : Prop) (w : World) (e : Ending) (w' : World) : Prop := (∃ b, e = .returned (.bool b) ∧ (b = true ↔ p)) ∧ Below w.heap.size w w'
theorem list_inj {a b : ByteArray} (h : a.toList = b.toList) : a = b :=
  ByteArray.ext (Array.ext' (by rw [ByteArray.toList_eq, ByteArray.toList_eq] at h; exact h))
theorem hb0s {w w1 w2 w3 : World} (h1 : Below w.heap.size w w1) (h2 : Below w1.heap.size w1 w2) (h3 : Below w2.heap.size w2 w3) : Below w.heap.size w w3 :=
  (h1.trans (h2.mono h1.size)).trans (h3.mono (Nat.le_trans h1.size h2.size))
theorem two_new {w w2 : World} {c1 c2 : Array Value} {T : TypeId} (hb2 : Below ((w.alloc (.cells c1 T)).alloc (.cells c2 T)).heap.size ((w.alloc (.cells c1 T)).alloc (.cells c2 T)) w2) :
    Cells w2 w.heap.size c1 T ∧ Cells w2 (w.heap.size + 1) c2 T ∧ w.heap.size < w2.heap.size ∧ w.heap.size + 1 < w2.heap.size := by
  have hs := hb2.size
  simp only [World.size_alloc] at hs
  refine ⟨((Cells.new w c1 T).alloc _).below hb2 (by simp; omega), ?_, by omega, by omega⟩
  have h := (Cells.new (w.alloc (.cells c1 T)) c2 T).below hb2 (by simp)
  simpa using h
theorem no_iff {p : Prop} (h : ¬ p) : (false = true ↔ p) := ⟨(fun h => by cases h), fun hp => absurd hp h⟩
theorem yes_iff {p : Prop} (h : p) : (true = true ↔ p) := ⟨fun _ => h, fun _ => rfl⟩

/-- A slice of values, as it is found in a value. -/
def KidsV (w : World) (a : Option Addr) (kids : List Tree) : Prop := ∀ (x : Addr), a = some x → kids ≠ [] → x.spot = none ∧ x.block < w.heap.size ∧ KidsAt w x.block x.off kids
theorem KidsV.below {w w' : World} {a : Option Addr} {kids : List Tree} (h : KidsV w a kids) (hb : Below w.heap.size w w') : KidsV w' a kids := fun x hx hne => by
  obtain ⟨g1, g2, g3⟩ := h x hx hne
  exact ⟨g1, Nat.lt_of_lt_of_le g2 hb.size, KidsAt.below hb g2 kids _ g3⟩

set_option maxHeartbeats 4000000 in
set_option maxRecDepth 100000 in
theorem EqualFunc_of (kids1 kids2 : List Tree) (a a2 : Option Addr) (cap cap2 : Nat) (w : World)
    (IH : ∀ k (h1 : k < kids1.length) (h2 : k < kids2.length) (w : World) (cs ds : List Value), ValAt w kids1[k] cs → ValAt w kids2[k] ds → Calls Tryd.prog 22 #[valV cs, valV ds] w (SameP (kids1[k] = kids2[k]) w))
    (hl : kids1.length ≤ cap) (hm : cap ≤ maxLen) (hnil : a = none → cap = 0) (hx : ∀ (x : Addr), a = some x → kids1 ≠ [] → x.spot = none ∧ x.block < w.heap.size ∧ KidsAt w x.block x.off kids1)
    (hl2 : kids2.length ≤ cap2) (hm2 : cap2 ≤ maxLen) (hnil2 : a2 = none → cap2 = 0) (hx2 : ∀ (x : Addr), a2 = some x → kids2 ≠ [] → x.spot = none ∧ x.block < w.heap.size ∧ KidsAt w x.block x.off kids2) :
    Calls Tryd.prog 53 #[.slice a kids1.length cap, .slice a2 kids2.length cap2, .func (.func 22) #[] #[]] w (SameP (kids1 = kids2) w) := by
  unfold maxLen at hm hm2
  by_cases hlen : kids1.length = kids2.length
  · have hbl := Below.refl w.heap.size w
    have hq : ((kids1.length : Int) != (kids2.length : Int)) = false := by simp [hlen]
    have HL := Lib.hid hlen
    clear hlen
    go_enter Tryd.func53, Tryd.ntmps53
    go_wp2_with fail
    go_loopw [17] (fun i wr => ∃ k : Nat, k ≤ kids1.length ∧ i = .int .i64 (k : Int) ∧ (∀ j (h1 : j < kids1.length) (h2 : j < kids2.length), j < k → kids1[j] = kids2[j]) ∧ Below w.heap.size w wr) (fun i _ => kids1.length - (intOf i).toNat)
    case atStart => exact ⟨0, Nat.zero_le _, rfl, fun j _ _ h => by omega, hbl⟩
    case round =>
      clear hbl
      obtain ⟨k, hk, rfl, hall, hbl⟩ := hrel
      have HA := Lib.hid hall
      clear hall
      by_cases hkl : k < kids1.length
      · have hkl2 : k < kids2.length := by have := HL.out; omega
        have hne : kids1 ≠ [] := by intro h0; rw [h0] at hkl; simp at hkl
        have hne2 : kids2 ≠ [] := by intro h0; rw [h0] at hkl2; simp at hkl2
        cases a with
        | none => have := hnil rfl; omega
        | some x =>
        cases a2 with
        | none => have := hnil2 rfl; omega
        | some x2 =>
        obtain ⟨bb, off, sp⟩ := x
        obtain ⟨bb2, off2, sp2⟩ := x2
        obtain ⟨rfl, hlt, hkids⟩ := hx _ rfl hne
        obtain ⟨rfl, hlt2, hkids2⟩ := hx2 _ rfl hne2
        simp only at hlt hkids hlt2 hkids2
        obtain ⟨kc0, hkc, hkv⟩ := KidsAt.get (KidsAt.below hbl hlt kids1 _ hkids) k hkl
        obtain ⟨kkind, kis, kneg, kdig, kexp, kstr, kka, kkn, kkc, ksa, ksn, ksc, rfl, m0, m1, m2, m3, m4, m5, m6, m7⟩ := kid_at hkv hkc
        obtain ⟨jc0, hjc, hjv⟩ := KidsAt.get (KidsAt.below hbl hlt2 kids2 _ hkids2) k hkl2
        obtain ⟨jkind, jis, jneg, jdig, jexp, jstr, jka, jkn, jkc, jsa, jsn, jsc, rfl, o0, o1, o2, o3, o4, o5, o6, o7⟩ := kid_at hjv hjc
        have hIH := IH k hkl hkl2
        have hr1 := Nat.lt_of_lt_of_le hlt hbl.size
        have hr2 := Nat.lt_of_lt_of_le hlt2 hbl.size
        have HD : Hid (kids1[k] = kids2[k] → ∀ j (h1 : j < kids1.length) (h2 : j < kids2.length), j < k + 1 → kids1[j] = kids2[j]) := Lib.hid (fun heq j h1 h2 h => by
            by_cases hjk : j = k
            · subst hjk; exact heq
            · exact HA.out j h1 h2 (by omega))
        have HN : Hid (¬ kids1[k] = kids2[k] → kids1 ≠ kids2) := Lib.hid (fun h => rows_ne hkl hkl2 h)
        clear HA IH hkc hjc
        generalize kids1[k] = kid at *
        generalize kids2[k] = jid at *
        have hkv2 := (hkv.below_alloc (.cells #[.int .i64 kkind, .bool kis, .bool kneg, .string kdig, .int .i64 kexp, .string kstr, .slice kka kkn kkc, .slice ksa ksn ksc] 27)).below_alloc (.cells #[.int .i64 jkind, .bool jis, .bool jneg, .string jdig, .int .i64 jexp, .string jstr, .slice jka jkn jkc, .slice jsa jsn jsc] 27)
        have hjv2 := (hjv.below_alloc (.cells #[.int .i64 kkind, .bool kis, .bool kneg, .string kdig, .int .i64 kexp, .string kstr, .slice kka kkn kkc, .slice ksa ksn ksc] 27)).below_alloc (.cells #[.int .i64 jkind, .bool jis, .bool jneg, .string jdig, .int .i64 jexp, .string jstr, .slice jka jkn jkc, .slice jsa jsn jsc] 27)
        have hb1 := (hbl.alloc hbl.size (.cells #[.int .i64 kkind, .bool kis, .bool kneg, .string kdig, .int .i64 kexp, .string kstr, .slice kka kkn kkc, .slice ksa ksn ksc] 27)).alloc (by have := hbl.size; simp; omega) (.cells #[.int .i64 jkind, .bool jis, .bool jneg, .string jdig, .int .i64 jexp, .string jstr, .slice jka jkn jkc, .slice jsa jsn jsc] 27)
        go_wp2_with fail
        refine (hIH _ _ _ hkv2 hjv2).mono ?_
        clear hIH hkv hkv2 hjv hjv2
        rintro e w2 ⟨⟨b, rfl, hbb⟩, hb2⟩
        have hb3 := hb1.trans (hb2.mono (by have := hbl.size; simp; omega))
        have HB := Lib.hid hbb
        clear hbb
        cases b
        · go_wp2
          go_ret
          exact ⟨⟨false, rfl, no_iff (HN.out (fun h => by have := HB.out.2 h; cases this))⟩, hb3⟩
        · have HY := Lib.hid (HD.out (HB.out.1 rfl))
          clear HB HD
          go_wp2
          go_roundw
          case rel => exact ⟨k + 1, by omega, by go_num, HY.out, hb3⟩
          case measure => simp [intOf]; omega
      · obtain rfl : k = kids1.length := by omega
        have hR := Lib.hid (rows_eq HL.out (fun j h1 h2 => HA.out j h1 h2 h1))
        go_wp2
        go_ret
        exact ⟨⟨true, rfl, yes_iff hR.out⟩, hbl⟩
  · have hR : Hid (kids1 ≠ kids2) := Lib.hid (by rintro rfl; exact hlen rfl)
    have hq : ((kids1.length : Int) != (kids2.length : Int)) = true := by rw [bne_iff_ne]; omega
    clear hlen IH
    go_enter Tryd.func53, Tryd.ntmps53
    go_wp2
    go_ret
    exact ⟨⟨false, rfl, no_iff hR.out⟩, Below.refl _ w⟩

set_option maxHeartbeats 4000000 in
set_option maxRecDepth 100000 in
theorem Same_step (n : Nat) (IH : ∀ (s t : Tree), s.bulk ≤ n → ∀ (w : World) (cs ds : List Value), ValAt w s cs → ValAt w t ds → Calls Tryd.prog 22 #[valV cs, valV ds] w (SameP (s = t) w))
    (k1 k2 : Int) (is1 is2 neg1 neg2 : Bool) (d1 d2 : ByteArray) (e1 e2 : Int) (s1 s2 : ByteArray) (ks1 ks2 : List ByteArray) (kids1 kids2 : List Tree)
    (hn : (Tree.mk k1 is1 neg1 d1 e1 s1 ks1 kids1).bulk ≤ n + 1) (p : Prop) (hp : p ↔ Tree.mk k1 is1 neg1 d1 e1 s1 ks1 kids1 = Tree.mk k2 is2 neg2 d2 e2 s2 ks2 kids2)
    (w : World) (cs ds : List Value) (hv : ValAt w (.mk k1 is1 neg1 d1 e1 s1 ks1 kids1) cs) (hv2 : ValAt w (.mk k2 is2 neg2 d2 e2 s2 ks2 kids2) ds) :
    Calls Tryd.prog 22 #[valV cs, valV ds] w (SameP p w) := by
  have hkb : bulkAll kids1 ≤ n := by simp only [Tree.bulk] at hn; omega
  simp only [ValAt] at hv hv2
  obtain ⟨kv, a, cap, rfl, hk, hl, hm, hnil, hx⟩ := hv
  obtain ⟨ka, kc, rfl, hkl0, hkm0, -⟩ := hk.len
  obtain ⟨kv2, a2, cap2, rfl, hk2, hl2, hm2, hnil2, hx2⟩ := hv2
  obtain ⟨ka2, kc2, rfl, hkl2, hkm2, -⟩ := hk2.len
  have HP := Lib.hid hp
  simp only [valV]
  clear hp hn
  have hb0 : Below w.heap.size w ((w.alloc (.cells #[.int .i64 k1, .bool is1, .bool neg1, .string d1, .int .i64 e1, .string s1, .slice ka ks1.length kc, .slice a kids1.length cap] 27)).alloc
    (.cells #[.int .i64 k2, .bool is2, .bool neg2, .string d2, .int .i64 e2, .string s2, .slice ka2 ks2.length kc2, .slice a2 kids2.length cap2] 27)) := ((Below.refl _ w).alloc (Nat.le_refl _) _).alloc (by simp) _
  have hEq := fun W h1 h2 => Equal_any (.slice ka ks1.length kc) (.slice ka2 ks2.length kc2) ks1 ks2 W h1 h2
  have hKd := fun W => EqualFunc_of kids1 kids2 a a2 cap cap2 W (fun k h1 h2 => IH kids1[k] kids2[k] (by have := bulk_kid h1; omega)) hl hm hnil
  have HEQ := Lib.hid hEq
  have HKD := Lib.hid hKd
  have HX := Lib.hid hx
  have HX2 := Lib.hid hx2
  clear hEq hKd IH hx hx2
  unfold maxLen at hm hkm0 hm2 hkm2
  go_enter Tryd.func22, Tryd.ntmps22
  go_wp2_with fail
  · refine (HEQ.out _ ((hk.alloc _).alloc _) ((hk2.alloc _).alloc _)).mono ?_
    rintro e w2 ⟨rfl, hb2⟩
    have HB := Lib.hid (hb0s ((Below.refl _ w).alloc (Nat.le_refl _) _) ((Below.refl _ _).alloc (by simp) _) hb2)
    obtain ⟨hc0, hc1, hz0, hz1⟩ := two_new hb2
    have hc0c0 := hc0.cell 0 _ rfl
    have hc0f0 := hc0.frozen 0
    have hc0c1 := hc0.cell 1 _ rfl
    have hc0f1 := hc0.frozen 1
    have hc0c2 := hc0.cell 2 _ rfl
    have hc0f2 := hc0.frozen 2
    have hc0c3 := hc0.cell 3 _ rfl
    have hc0f3 := hc0.frozen 3
    have hc0c4 := hc0.cell 4 _ rfl
    have hc0f4 := hc0.frozen 4
    have hc0c5 := hc0.cell 5 _ rfl
    have hc0f5 := hc0.frozen 5
    have hc0c6 := hc0.cell 6 _ rfl
    have hc0f6 := hc0.frozen 6
    have hc0c7 := hc0.cell 7 _ rfl
    have hc0f7 := hc0.frozen 7
    have hc1c0 := hc1.cell 0 _ rfl
    have hc1f0 := hc1.frozen 0
    have hc1c1 := hc1.cell 1 _ rfl
    have hc1f1 := hc1.frozen 1
    have hc1c2 := hc1.cell 2 _ rfl
    have hc1f2 := hc1.frozen 2
    have hc1c3 := hc1.cell 3 _ rfl
    have hc1f3 := hc1.frozen 3
    have hc1c4 := hc1.cell 4 _ rfl
    have hc1f4 := hc1.frozen 4
    have hc1c5 := hc1.cell 5 _ rfl
    have hc1f5 := hc1.frozen 5
    have hc1c6 := hc1.cell 6 _ rfl
    have hc1f6 := hc1.frozen 6
    have hc1c7 := hc1.cell 7 _ rfl
    have hc1f7 := hc1.frozen 7
    obtain ⟨b, hb⟩ : ∃ b, b = decide (ks1 = ks2) := ⟨_, rfl⟩
    rw [← hb]
    have HKS : Hid (b = decide (ks1 = ks2)) := Lib.hid hb
    clear hb hb2
    cases b
    · go_wp2_with fail
      go_ret
      refine ⟨⟨false, rfl, no_iff (fun h => ?_)⟩, HB.out⟩
      have h2 := HP.out.1 h
      have h3 := HKS.out
      simp only [Tree.mk.injEq] at h2
      obtain ⟨rfl, rfl, rfl, rfl, rfl, rfl, rfl, rfl⟩ := h2
      simp at h3
    · have hks := of_decide_eq_true HKS.out.symm
      clear HKS
      have HKS := Lib.hid hks
      clear hks
      go_wp2_with fail
      refine (HKD.out _ (KidsV.below HX.out HB.out) hl2 hm2 hnil2 (KidsV.below HX2.out HB.out)).mono ?_
      rintro e w3 ⟨⟨b, rfl, hbb⟩, hb3⟩
      have HBB := Lib.hid hbb
      clear hbb
      have hd1 := Lib.hid (list_inj (by assumption : d1.toList = d2.toList))
      have hd2 := Lib.hid (list_inj (by assumption : s1.toList = s2.toList))
      cases b
      · go_wp2_with fail
        go_ret
        refine ⟨⟨false, rfl, no_iff (fun h => ?_)⟩, HB.out.trans (hb3.mono HB.out.size)⟩
        have h2 := HP.out.1 h
        simp only [Tree.mk.injEq] at h2
        have := HBB.out.2 h2.2.2.2.2.2.2.2
        cases this
      · have HY := Lib.hid (HBB.out.1 rfl)
        clear HBB
        go_wp2_with fail
        go_ret
        refine ⟨⟨true, rfl, yes_iff ?_⟩, HB.out.trans (hb3.mono HB.out.size)⟩
        refine HP.out.2 ?_
        have h3 := HY.out
        have h4 := HKS.out
        have h5 := hd1.out
        have h6 := hd2.out
        subst h3 h4 h5 h6
        simp only [Tree.mk.injEq]
        simp [*]
  all_goals
    go_ret
    refine ⟨⟨false, rfl, no_iff (fun h => ?_)⟩, ?_⟩
    · have h2 := HP.out.1 h
      simp only [Tree.mk.injEq] at h2
      obtain ⟨rfl, rfl, rfl, rfl, rfl, rfl, rfl, rfl⟩ := h2
      simp at *
    · skip
      (repeat' (first | (with_reducible refine Below.setCell ?_ ?_ _) | (with_reducible refine Below.alloc ?_ ?_ _) | (with_reducible refine Below.drew ?_) | (with_reducible assumption) | (with_reducible exact Below.refl _ _) | (simp only [World.size_alloc, World.size_setCell, World.size_drew]; done) | (simp only [World.size_alloc, World.size_setCell, World.size_drew]; omega) | omega))

theorem Same_upto (n : Nat) : ∀ (s t : Tree), s.bulk ≤ n → ∀ (w : World) (cs ds : List Value), ValAt w s cs → ValAt w t ds → Calls Tryd.prog 22 #[valV cs, valV ds] w (SameP (s = t) w) := by
  induction n with
  | zero => intro t _ h; have := bulk_pos t; omega
  | succ n IH =>
    intro s t h w cs ds hv hv2
    cases s
    cases t
    exact Same_step n IH _ _ _ _ _ _ _ _ _ _ _ _ _ _ _ _ h _ Iff.rfl w cs ds hv hv2
theorem Same_any (s t : Tree) (w : World) (cs ds : List Value) (hv : ValAt w s cs) (hv2 : ValAt w t ds) : Calls Tryd.prog 22 #[valV cs, valV ds] w (SameP (s = t) w) :=
  Same_upto s.bulk s t (Nat.le_refl _) w cs ds hv hv2
end Go.Proofs.YtpcfhiipkbpmkaaDoor
