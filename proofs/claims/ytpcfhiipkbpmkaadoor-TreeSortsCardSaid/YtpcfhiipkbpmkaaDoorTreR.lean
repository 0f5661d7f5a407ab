/- The walk of right (layer 8). -/
import Derived.Test.YtpcfhiipkbpmkaaDoorTreQ
namespace Go.Proofs.YtpcfhiipkbpmkaaDoor
open Go.RowKit Go.Tab

/-- Whether a value is right, and at most so deep. -/
def rightT : Nat → Tree → Prop
  | 0, _ => False
  | n + 1, .mk kind is neg d e s ks kids => plainT (.mk kind is neg d e s ks kids) ∧ ∀ k (h : k < kids.length), rightT n kids[k]

set_option maxHeartbeats 4000000 in
set_option maxRecDepth 100000 in
theorem right_step (n : Nat) (hn : n ≤ 64) (IH : ∀ (t : Tree), t.bulk ≤ 1048576 → ∀ (dp : Int), dp = n → ∀ (w : World), Tab w → ∀ (cs : List Value), ValAt w t cs → Calls Tryd.prog 54 #[valV cs, .int .i64 dp] w (SameP (rightT n t) w))
    (kind : Int) (is neg : Bool) (digits : ByteArray) (exp : Int) (str : ByteArray) (keys : List ByteArray) (kids : List Tree) (hb : (Tree.mk kind is neg digits exp str keys kids).bulk ≤ 1048576)
    (dp : Int) (hdp : dp = n + 1) (w : World) (hT : Tab w) (cs : List Value) (hv : ValAt w (.mk kind is neg digits exp str keys kids) cs) :
    Calls Tryd.prog 54 #[valV cs, .int .i64 dp] w (SameP (rightT (n + 1) (.mk kind is neg digits exp str keys kids)) w) := by
  have hP := fun W hT hv' => plain_any (.mk kind is neg digits exp str keys kids) hb W hT cs hv'
  have hkb : bulkAll kids ≤ 1048576 := by simp only [Tree.bulk] at hb; omega
  have hv0 := hv
  simp only [ValAt] at hv
  obtain ⟨kv, a, cap, rfl, hk, hl, hm, hnil, hx⟩ := hv
  obtain ⟨ka, kc, rfl, hkl0, hkm0, -⟩ := hk.len
  have hll := len_bulk kids
  unfold maxLen at hm hkm0
  obtain ⟨p, hp⟩ : ∃ p, p = rightT (n + 1) (.mk kind is neg digits exp str keys kids) := ⟨_, rfl⟩
  rw [← hp]
  have HP : Hid (p = rightT (n + 1) (.mk kind is neg digits exp str keys kids)) := Lib.hid hp
  obtain ⟨bP, hbP⟩ := some_bool (plainT (.mk kind is neg digits exp str keys kids))
  have hP2 := fun W hT hv' => SameP.fix hbP (hP W hT hv')
  have HBP := Lib.hid hbP
  have hb0 : Below w.heap.size w (w.alloc (.cells #[.int .i64 kind, .bool is, .bool neg, .string digits, .int .i64 exp, .string str, .slice ka keys.length kc, .slice a kids.length cap] 27)) := (Below.refl _ w).alloc (Nat.le_refl _) _
  have hv1 := hv0.below_alloc (.cells #[.int .i64 kind, .bool is, .bool neg, .string digits, .int .i64 exp, .string str, .slice ka keys.length kc, .slice a kids.length cap] 27)
  have hP3 := hP2 _ (hT.below hb0 hT.pos) hv1
  have HIH := Lib.hid IH
  clear hp hP hbP hP2 hb hv0 hv1 hk hb0 IH
  have hd1 : ¬ dp < 1 := by omega
  have hdd : 1 ≤ dp ∧ dp ≤ 65 := by omega
  have HDP := Lib.hid hdp
  clear hdp
  simp only [valV] at hP3 ⊢
  go_enter Tryd.func54, Tryd.ntmps54
  go_wp2_with fail
  refine hP3.mono ?_
  clear hP3
  rintro e w1 ⟨rfl, hb1⟩
  obtain ⟨hc, hz1, hbw⟩ := one_new hb1
  clear hb1
  have HBW := Lib.hid hbw
  have hcc0 := hc.cell 0 _ rfl
  have hcf0 := hc.frozen 0
  have hcc1 := hc.cell 1 _ rfl
  have hcf1 := hc.frozen 1
  have hcc2 := hc.cell 2 _ rfl
  have hcf2 := hc.frozen 2
  have hcc3 := hc.cell 3 _ rfl
  have hcf3 := hc.frozen 3
  have hcc4 := hc.cell 4 _ rfl
  have hcf4 := hc.frozen 4
  have hcc5 := hc.cell 5 _ rfl
  have hcf5 := hc.frozen 5
  have hcc6 := hc.cell 6 _ rfl
  have hcf6 := hc.frozen 6
  have hcc7 := hc.cell 7 _ rfl
  have hcf7 := hc.frozen 7
  clear hc hbw
  cases bP
  · go_wp2_with fail
    go_ret
    refine ⟨⟨false, rfl, no_iff (fun h => ?_)⟩, HBW.out⟩
    rw [HP.out] at h
    have := HBP.out.2 h.1
    cases this
  · have HPY := Lib.hid (HBP.out.1 rfl)
    clear HBP
    go_wp2_with fail
    go_loopw [17] (fun i wr => ∃ k : Nat, k ≤ kids.length ∧ i = .int .i64 (k : Int) ∧ (∀ j (h : j < kids.length), j < k → rightT n kids[j]) ∧ Below w.heap.size w wr) (fun i _ => kids.length - (intOf i).toNat)
    case atStart => exact ⟨0, Nat.zero_le _, rfl, fun j _ h => by omega, HBW.out⟩
    case round =>
      clear hcc0 hcc1 hcc2 hcc3 hcc4 hcc5 hcc6 hcc7 hcf0 hcf1 hcf2 hcf3 hcf4 hcf5 hcf6 hcf7
      obtain ⟨k, hk, rfl, hall, hbl⟩ := hrel
      have HA := Lib.hid hall
      clear hall
      by_cases hkl : k < kids.length
      · have hne : kids ≠ [] := by intro h0; rw [h0] at hkl; simp at hkl
        cases a with
        | none => have := hnil rfl; omega
        | some x =>
        obtain ⟨bb, off, sp⟩ := x
        obtain ⟨rfl, hlt, hkids⟩ := hx _ rfl hne
        simp only at hlt hkids
        obtain ⟨kc0, hkc, hkv⟩ := KidsAt.get (KidsAt.below hbl hlt kids _ hkids) k hkl
        obtain ⟨kkind, kis, kneg, kdig, kexp, kstr, kka, kkn, kkc, ksa, ksn, ksc, rfl, m0, m1, m2, m3, m4, m5, m6, m7⟩ := kid_at hkv hkc
        have hr1 := Nat.lt_of_lt_of_le hlt hbl.size
        have hkv2 := hkv.below_alloc (.cells #[.int .i64 kkind, .bool kis, .bool kneg, .string kdig, .int .i64 kexp, .string kstr, .slice kka kkn kkc, .slice ksa ksn ksc] 27)
        have hb1 := hbl.alloc hbl.size (.cells #[.int .i64 kkind, .bool kis, .bool kneg, .string kdig, .int .i64 kexp, .string kstr, .slice kka kkn kkc, .slice ksa ksn ksc] 27)
        have hC := HIH.out kids[k] (by have := bulk_kid hkl; omega) (dp - 1) (by have := HDP.out; omega) _ (hT.below hb1 hT.pos) _ hkv2
        have HD : Hid (rightT n kids[k] → ∀ j (h : j < kids.length), j < k + 1 → rightT n kids[j]) := Lib.hid (fun hr j h1 h => by
          by_cases hjk : j = k
          · subst hjk; exact hr
          · exact HA.out j h1 (by omega))
        have HN : Hid (¬ rightT n kids[k] → ¬ ∀ j (h : j < kids.length), rightT n kids[j]) := Lib.hid (fun h h2 => h (h2 k hkl))
        clear HA hkc hkv hkv2
        generalize kids[k] = kid at *
        obtain ⟨b, hb⟩ := some_bool (rightT n kid)
        have hC2 := SameP.fix hb hC
        have HB := Lib.hid hb
        clear hb hC
        simp only [valV] at hC2
        go_wp2_with fail
        refine hC2.mono ?_
        clear hC2
        rintro e w2 ⟨rfl, hb2⟩
        have HB3 := Lib.hid (hb1.trans (hb2.mono (by have := hbl.size; simp; omega)))
        clear hb1 hb2
        cases b
        · have HY := Lib.hid (HN.out (fun h => by have := HB.out.2 h; cases this))
          clear HB HN HD
          go_wp2_with fail
          go_ret
          refine ⟨⟨false, rfl, no_iff (fun h => ?_)⟩, HB3.out⟩
          rw [HP.out] at h
          exact HY.out h.2
        · have HY := Lib.hid (HD.out (HB.out.1 rfl))
          clear HB HN HD
          go_wp2_with fail
          go_roundw
          case rel => exact ⟨k + 1, by omega, by go_num, HY.out, HB3.out⟩
          case measure => simp [intOf]; omega
      · obtain rfl : k = kids.length := by omega
        go_wp2_with fail
        go_ret
        refine ⟨⟨true, rfl, yes_iff ?_⟩, hbl⟩
        rw [HP.out]
        exact ⟨HPY.out, fun j h => HA.out j h h⟩

theorem right_upto (n : Nat) : n ≤ 65 → ∀ (t : Tree), t.bulk ≤ 1048576 → ∀ (dp : Int), dp = n → ∀ (w : World), Tab w → ∀ (cs : List Value), ValAt w t cs → Calls Tryd.prog 54 #[valV cs, .int .i64 dp] w (SameP (rightT n t) w) := by
  induction n with
  | zero =>
    intro _ t _ dp hdp w hT cs hv
    obtain ⟨kind, is, neg, digits, exp, str, ka, kn, kc, sa, sn, sc, rfl⟩ : ∃ kind is neg digits exp str ka kn kc sa sn sc, cs = [.int .i64 kind, .bool is, .bool neg, .string digits, .int .i64 exp, .string str, .slice ka kn kc, .slice sa sn sc] := by
      cases t
      simp only [ValAt] at hv
      obtain ⟨kv, a, cap, rfl, h2, -⟩ := hv
      obtain ⟨ka, kc, rfl, -⟩ := h2.len
      exact ⟨_, _, _, _, _, _, _, _, _, _, _, _, rfl⟩
    have hd : dp < 1 := by omega
    clear hv
    simp only [valV]
    go_enter Tryd.func54, Tryd.ntmps54
    go_wp2_with fail
    go_ret
    exact ⟨⟨false, rfl, no_iff (fun h => h)⟩, (Below.refl _ w).alloc (Nat.le_refl _) _⟩
  | succ n IH =>
    intro hn t hb dp hdp w hT cs hv
    cases t
    exact right_step n (by omega) (IH (by omega)) _ _ _ _ _ _ _ _ hb dp (by omega) w hT cs hv

set_option maxHeartbeats 4000000 in
set_option maxRecDepth 100000 in
theorem Right_any (t : Tree) (hb : t.bulk ≤ 1048576) (w : World) (hT : Tab w) (cs : List Value) (hv : ValAt w t cs) : Calls Tryd.prog 25 #[valV cs] w (SameP (rightT 64 t) w) := by
  have hR := fun W hT hv' => right_upto 64 (by omega) t hb 64 rfl W hT cs hv'
  obtain ⟨b, hb⟩ := some_bool (rightT 64 t)
  have hR2 := fun W hT hv' => SameP.fix hb (hR W hT hv')
  clear hR
  have HB := Lib.hid hb
  clear hb
  obtain ⟨kind, is, neg, digits, exp, str, ka, kn, kc, sa, sn, sc, rfl⟩ : ∃ kind is neg digits exp str ka kn kc sa sn sc, cs = [.int .i64 kind, .bool is, .bool neg, .string digits, .int .i64 exp, .string str, .slice ka kn kc, .slice sa sn sc] := by
    cases t
    simp only [ValAt] at hv
    obtain ⟨kv, a, cap, rfl, h2, -⟩ := hv
    obtain ⟨ka, kc, rfl, -⟩ := h2.len
    exact ⟨_, _, _, _, _, _, _, _, _, _, _, _, rfl⟩
  have hb0 : Below w.heap.size w (w.alloc (.cells #[.int .i64 kind, .bool is, .bool neg, .string digits, .int .i64 exp, .string str, .slice ka kn kc, .slice sa sn sc] 27)) := (Below.refl _ w).alloc (Nat.le_refl _) _
  have hC := hR2 _ (hT.below hb0 hT.pos) (hv.below_alloc _)
  clear hR2 hv
  simp only [valV] at hC ⊢
  go_enter Tryd.func25, Tryd.ntmps25
  go_wp2_with fail
  refine hC.mono ?_
  rintro e w1 ⟨rfl, hb1⟩
  go_wp2_with fail
  go_ret
  exact ⟨⟨b, rfl, HB.out⟩, hb0.trans (hb1.mono (by simp))⟩
end Go.Proofs.YtpcfhiipkbpmkaaDoor
