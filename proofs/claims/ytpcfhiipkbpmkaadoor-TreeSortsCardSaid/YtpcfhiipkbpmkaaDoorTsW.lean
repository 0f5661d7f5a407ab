/- The walks of the reference's whole and Right (layer 8). -/
import Derived.Test.YtpcfhiipkbpmkaaDoorTsR
import Derived.Test.YtpcfhiipkbpmkaaDoorTsP
namespace Go.Proofs.YtpcfhiipkbpmkaaDoor
open Go.RowKit Go.Tab

set_option maxHeartbeats 4000000 in
set_option maxRecDepth 100000 in
theorem whole_step (n : Nat) (IH : ∀ (t : Tree), t.bulk ≤ n → t.bulk ≤ 100000 → ∀ (w : World) (cs : List Value), ValAt w t cs → Calls Tryd.prog 55 #[valV cs] w (SameP (wholeT t) w))
    (kind : Int) (is neg : Bool) (digits : ByteArray) (exp : Int) (str : ByteArray) (keys : List ByteArray) (kids : List Tree) (hn : (Tree.mk kind is neg digits exp str keys kids).bulk ≤ n + 1) (hb : (Tree.mk kind is neg digits exp str keys kids).bulk ≤ 100000)
    (w : World) (cs : List Value) (hv : ValAt w (.mk kind is neg digits exp str keys kids) cs) :
    Calls Tryd.prog 55 #[valV cs] w (SameP (wholeT (.mk kind is neg digits exp str keys kids)) w) := by
  have hP := fun W hv' => own_any (.mk kind is neg digits exp str keys kids) hb W cs hv'
  have hkb : bulkAll kids ≤ n ∧ bulkAll kids ≤ 100000 := by simp only [Tree.bulk] at hb hn; omega
  have hv0 := hv
  simp only [ValAt] at hv
  obtain ⟨kv, a, cap, rfl, hk, hl, hm, hnil, hx⟩ := hv
  obtain ⟨ka, kc, rfl, hkl0, hkm0, -⟩ := hk.len
  have hll := len_bulk kids
  unfold maxLen at hm hkm0
  obtain ⟨p, hp⟩ : ∃ p, p = wholeT (.mk kind is neg digits exp str keys kids) := ⟨_, rfl⟩
  rw [← hp]
  have HP : Hid (p = wholeT (.mk kind is neg digits exp str keys kids)) := Lib.hid hp
  obtain ⟨bP, hbP⟩ := some_bool (plainT (.mk kind is neg digits exp str keys kids))
  have hP2 := fun W hv' => SameP.fix hbP (hP W hv')
  have HBP := Lib.hid hbP
  have hb0 : Below w.heap.size w (w.alloc (.cells #[.int .i64 kind, .bool is, .bool neg, .string digits, .int .i64 exp, .string str, .slice ka keys.length kc, .slice a kids.length cap] 27)) := (Below.refl _ w).alloc (Nat.le_refl _) _
  have hv1 := hv0.below_alloc (.cells #[.int .i64 kind, .bool is, .bool neg, .string digits, .int .i64 exp, .string str, .slice ka keys.length kc, .slice a kids.length cap] 27)
  have hP3 := hP2 _ hv1
  have HIH := Lib.hid IH
  clear hp hP hbP hP2 hb hn hv0 hv1 hk hb0 IH
  simp only [valV] at hP3 ⊢
  go_enter Tryd.func55, Tryd.ntmps55
  go_wp2_with fail
  refine hP3.mono ?_
  clear hP3
  rintro e w1 ⟨rfl, hb1⟩
  obtain ⟨hc, hz1, hbw⟩ := one_new hb1
  clear hb1
  have HBW := Lib.hid hbw
  cases bP
  · clear hc hbw
    go_wp2_with fail
    go_ret
    refine ⟨⟨false, rfl, no_iff (fun h => ?_)⟩, HBW.out⟩
    rw [HP.out] at h
    simp only [wholeT] at h
    have := HBP.out.2 h.1
    cases this
  · have HPY := Lib.hid (HBP.out.1 rfl)
    clear HBP
    go_wp2_with fail
    go_loopw [3] (fun i wr => ∃ k : Nat, k ≤ kids.length ∧ i = .int .i64 (k : Int) ∧ (∀ j (h : j < kids.length), j < k → wholeT kids[j]) ∧ Cells wr w.heap.size #[.int .i64 kind, .bool is, .bool neg, .string digits, .int .i64 exp, .string str, .slice ka keys.length kc, .slice a kids.length cap] 27 ∧ Below w.heap.size w wr) (fun i _ => kids.length - (intOf i).toNat)
    case atStart => exact ⟨0, Nat.zero_le _, rfl, fun j _ h => by omega, hc, HBW.out⟩
    case round =>
      clear hc hbw
      obtain ⟨k, hk, rfl, hall, hX, hbl⟩ := hrel
      have hXl := hX.lt
      have HA := Lib.hid hall
      clear hall
      have hXc0 := hX.cell 0 _ rfl
      have hXf0 := hX.frozen 0
      have hXc1 := hX.cell 1 _ rfl
      have hXf1 := hX.frozen 1
      have hXc2 := hX.cell 2 _ rfl
      have hXf2 := hX.frozen 2
      have hXc3 := hX.cell 3 _ rfl
      have hXf3 := hX.frozen 3
      have hXc4 := hX.cell 4 _ rfl
      have hXf4 := hX.frozen 4
      have hXc5 := hX.cell 5 _ rfl
      have hXf5 := hX.frozen 5
      have hXc6 := hX.cell 6 _ rfl
      have hXf6 := hX.frozen 6
      have hXc7 := hX.cell 7 _ rfl
      have hXf7 := hX.frozen 7
      by_cases hkl : k < kids.length
      · have hne : kids ≠ [] := by intro h0; rw [h0] at hkl; simp at hkl
        cases a with
        | none => have := hnil rfl; omega
        | some x =>
        obtain ⟨bb, off, sp⟩ := x
        obtain ⟨rfl, hlt, hkids⟩ := hx _ rfl hne
        simp only at hlt hkids
        obtain ⟨kc0, hkc, hkv⟩ := KidsAt.get (KidsAt.below hbl hlt kids _ hkids) k hkl
        obtain ⟨kkind, kis, kneg, kdig, kexp, kstr, kka, kkn, kkc, ksa, ksn, ksc, rfl, m0, m1, m2, m3, m4, m5, m6, m7⟩ := kid_at hkv hkc
        have hr1 := Nat.lt_of_lt_of_le hlt hbl.size
        have hC := HIH.out kids[k] (by have := bulk_kid hkl; omega) (by have := bulk_kid hkl; omega) _ _ hkv
        have HD : Hid (wholeT kids[k] → ∀ j (h : j < kids.length), j < k + 1 → wholeT kids[j]) := Lib.hid (fun hr j h1 h => by
          by_cases hjk : j = k
          · subst hjk; exact hr
          · exact HA.out j h1 (by omega))
        have HN : Hid (¬ wholeT kids[k] → ¬ wholeAll kids) := Lib.hid (fun h h2 => h ((wholeAll_iff kids).1 h2 k hkl))
        clear HA hkc hkv
        generalize kids[k] = kid at *
        obtain ⟨b, hb⟩ := some_bool (wholeT kid)
        have hC2 := SameP.fix hb hC
        have HB := Lib.hid hb
        clear hb hC
        simp only [valV] at hC2
        go_wp2_with fail
        refine hC2.mono ?_
        clear hC2
        rintro e w2 ⟨rfl, hb2⟩
        have HB3 := Lib.hid (hbl.trans (hb2.mono hbl.size))
        have HX2 := Lib.hid (hX.below hb2 hXl)
        clear hbl hb2 hX hXc0 hXc1 hXc2 hXc3 hXc4 hXc5 hXc6 hXc7 hXf0 hXf1 hXf2 hXf3 hXf4 hXf5 hXf6 hXf7
        cases b
        · have HY := Lib.hid (HN.out (fun h => by have := HB.out.2 h; cases this))
          clear HB HN HD
          go_wp2_with fail
          go_ret
          refine ⟨⟨false, rfl, no_iff (fun h => ?_)⟩, HB3.out⟩
          rw [HP.out] at h
          simp only [wholeT] at h
          exact HY.out h.2
        · have HY := Lib.hid (HD.out (HB.out.1 rfl))
          clear HB HN HD
          go_wp2_with fail
          go_roundw
          case rel => exact ⟨k + 1, by omega, by go_num, HY.out, HX2.out, HB3.out⟩
          case measure => simp [intOf]; omega
      · obtain rfl : k = kids.length := by omega
        go_wp2_with fail
        go_ret
        refine ⟨⟨true, rfl, yes_iff ?_⟩, hbl⟩
        rw [HP.out]
        simp only [wholeT]
        exact ⟨HPY.out, (wholeAll_iff kids).2 (fun j h => HA.out j h h)⟩
theorem whole_upto (n : Nat) : ∀ (t : Tree), t.bulk ≤ n → t.bulk ≤ 100000 → ∀ (w : World) (cs : List Value), ValAt w t cs → Calls Tryd.prog 55 #[valV cs] w (SameP (wholeT t) w) := by
  induction n with
  | zero => intro t h; have := bulk_pos t; omega
  | succ n IH =>
    intro t h hb w cs hv
    cases t
    exact whole_step n IH _ _ _ _ _ _ _ _ h hb w cs hv

set_option maxHeartbeats 4000000 in
set_option maxRecDepth 100000 in
theorem rRight_any (t : Tree) (hb : t.bulk ≤ 100000) (w : World) (cs : List Value) (hv : ValAt w t cs) : Calls Tryd.prog 26 #[valV cs] w (SameP (rightT 64 t) w) := by
  obtain ⟨bW, hbW⟩ := some_bool (wholeT t)
  have hW := fun W hv' => SameP.fix hbW (whole_upto t.bulk t (Nat.le_refl _) hb W cs hv')
  have hD := fun W hv' => rDeep_any t.bulk t (Nat.le_refl _) (by omega) W cs hv'
  have HBW := Lib.hid hbW
  clear hbW
  have hdb : deep t ≤ 100000 := by have := deep_bulk t; omega
  have HI := Lib.hid (right_iff 64 t)
  obtain ⟨p, hp⟩ : ∃ p, p = rightT 64 t := ⟨_, rfl⟩
  rw [← hp]
  have HP : Hid (p = rightT 64 t) := Lib.hid hp
  clear hp
  have HV := Lib.hid hv
  have hv2 := hv
  obtain ⟨kind, is, neg, digits, exp, str, ka, kn, kc, sa, sn, sc, rfl⟩ : ∃ kind is neg digits exp str ka kn kc sa sn sc, cs = [.int .i64 kind, .bool is, .bool neg, .string digits, .int .i64 exp, .string str, .slice ka kn kc, .slice sa sn sc] := by
    cases t
    simp only [ValAt] at hv
    obtain ⟨kv, a, cap, rfl, h2, -⟩ := hv
    obtain ⟨ka, kc, rfl, -⟩ := h2.len
    exact ⟨_, _, _, _, _, _, _, _, _, _, _, _, rfl⟩
  clear hv hv2
  have hD1 := hD _ (HV.out.below_alloc (.cells #[.int .i64 kind, .bool is, .bool neg, .string digits, .int .i64 exp, .string str, .slice ka kn kc, .slice sa sn sc] 27))
  have HW := Lib.hid hW
  clear hD hW hb
  generalize hdd : deep t = dd at *
  have HDD := Lib.hid hdd
  clear hdd
  simp only [valV] at hD1 ⊢
  by_cases h64 : dd ≤ 64
  · have h64' : decide ((dd : Int) ≤ 64) = true := by rw [decide_eq_true_iff]; omega
    go_enter Tryd.func26, Tryd.ntmps26
    go_wp2_with fail
    refine hD1.mono ?_
    clear hD1
    rintro e w1 ⟨rfl, hb1⟩
    obtain ⟨hc, hz1, hbw⟩ := one_new hb1
    have hW1 := HW.out w1 (ValAt.below hbw _ _ HV.out)
    have HBL := Lib.hid hbw
    clear hb1 hbw
    simp only [valV] at hW1
    have hcc0 := hc.cell 0 _ rfl
    have hcf0 := hc.frozen 0
    have hcc1 := hc.cell 1 _ rfl
    have hcf1 := hc.frozen 1
    have hcc2 := hc.cell 2 _ rfl
    have hcf2 := hc.frozen 2
    have hcc3 := hc.cell 3 _ rfl
    have hcf3 := hc.frozen 3
    have hcc4 := hc.cell 4 _ rfl
    have hcf4 := hc.frozen 4
    have hcc5 := hc.cell 5 _ rfl
    have hcf5 := hc.frozen 5
    have hcc6 := hc.cell 6 _ rfl
    have hcf6 := hc.frozen 6
    have hcc7 := hc.cell 7 _ rfl
    have hcf7 := hc.frozen 7
    go_wp2_with fail
    refine hW1.mono ?_
    clear hW1
    rintro e w2 ⟨rfl, hb2⟩
    have HBL2 := Lib.hid (HBL.out.trans (hb2.mono HBL.out.size))
    clear hb2
    go_wp2_with fail
    go_ret
    refine ⟨⟨bW, rfl, ?_⟩, HBL2.out⟩
    rw [HP.out, HI.out, HBW.out]
    exact ⟨fun h => ⟨h64, h⟩, fun h => h.2⟩
  · have h64' : decide ((dd : Int) ≤ 64) = false := by rw [decide_eq_false_iff_not]; omega
    go_enter Tryd.func26, Tryd.ntmps26
    go_wp2_with fail
    refine hD1.mono ?_
    clear hD1
    rintro e w1 ⟨rfl, hb1⟩
    obtain ⟨hc, hz1, hbw⟩ := one_new hb1
    clear hc
    have HBL := Lib.hid hbw
    clear hb1 hbw
    go_wp2_with fail
    go_ret
    refine ⟨⟨false, rfl, no_iff (fun h => ?_)⟩, HBL.out⟩
    rw [HP.out, HI.out] at h
    exact h64 h.1
end Go.Proofs.YtpcfhiipkbpmkaaDoor
