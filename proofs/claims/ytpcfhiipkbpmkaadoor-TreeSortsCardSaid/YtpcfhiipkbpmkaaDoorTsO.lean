/- The walk of sortAll (layer 8). -/
import Derived.Test.YtpcfhiipkbpmkaaDoorTsN
namespace Go.Proofs.YtpcfhiipkbpmkaaDoor
open Go.RowKit Go.Tab

theorem Tryd.infoFld : (Tryd.prog.info? 97).map (fun i => (i.zero, i.size, i.bytes)) = some (some (.agg #[.string ⟨#[]⟩, .int .i64 0, .bool false, .bool false, .string ⟨#[]⟩, .int .i64 0, .string ⟨#[]⟩, .slice none 0 0, .slice none 0 0]), 9, 128) := by kernel_rfl

set_option maxHeartbeats 800000 in
set_option maxRecDepth 100000 in
theorem byText_any (w : World) : Calls Tryd.prog 82 #[.func (.func 83) #[] #[]] w fun e w' =>
    e = .returned (.func (.func 114) #[] #[.pointer (some ⟨w.heap.size, 0, none⟩)]) ∧ w' = w.alloc (.cells #[.func (.func 83) #[] #[]] 101) := by
  go_enter Tryd.func82, Tryd.ntmps82
  go_wp2
  go_ret
  exact ⟨rfl, rfl⟩

theorem F9.of {cs : List Value} {w : World} {t : Tree} {lo hi : Nat} (key : ByteArray) (s : Tree) (h : ValSep w t cs lo hi) : ∃ x : F9, x.key = key ∧ x.t = s ∧ x.cells = cs := by
  obtain ⟨kind, is, neg, dig, exp, str, ka, kn, kc, sa, sn, sc, rfl⟩ := ValIn.shape (ValSep.in _ _ _ _ h)
  exact ⟨⟨key, s, kind, is, neg, dig, exp, str, ka, kn, kc, sa, sn, sc⟩, rfl, rfl, rfl⟩

set_option maxHeartbeats 8000000 in
set_option maxRecDepth 100000 in
theorem sortAll_step (n : Nat) (IH : ∀ (t : Tree), t.bulk ≤ n → t.bulk ≤ 1048576 → wholeT t → ∀ (w : World) (b off lo hi : Nat) (cs : List Value), b < w.heap.size → ¬ Btw lo hi b → hi ≤ w.heap.size → (∀ (j : Nat) (u : Value), cs[j]? = some u → w.cell? ⟨b, off + j, none⟩ = some u) → ValSep w t cs lo hi →
      Calls Tryd.prog 57 #[.pointer (some ⟨b, off, none⟩)] w fun e w' => e = .returned (.tuple #[]) ∧ ValIn (Btw lo hi) w' (sortT t) cs ∧ Changed (Btw lo hi) w w')
    (kind : Int) (is neg : Bool) (digits : ByteArray) (exp : Int) (str : ByteArray) (keys : List ByteArray) (kids : List Tree) (hn : (Tree.mk kind is neg digits exp str keys kids).bulk ≤ n + 1) (hmax : (Tree.mk kind is neg digits exp str keys kids).bulk ≤ 1048576) (hw : wholeT (.mk kind is neg digits exp str keys kids))
    (w : World) (b off lo hi : Nat) (cs : List Value) (hbw : b < w.heap.size) (hbn : ¬ Btw lo hi b) (hhi : hi ≤ w.heap.size) (hcs : ∀ (j : Nat) (u : Value), cs[j]? = some u → w.cell? ⟨b, off + j, none⟩ = some u) (hv : ValSep w (.mk kind is neg digits exp str keys kids) cs lo hi) :
    Calls Tryd.prog 57 #[.pointer (some ⟨b, off, none⟩)] w fun e w' => e = .returned (.tuple #[]) ∧ ValIn (Btw lo hi) w' (sortT (.mk kind is neg digits exp str keys kids)) cs ∧ Changed (Btw lo hi) w w' := by
  have hkb : bulkAll kids ≤ n ∧ bulkAll kids ≤ 1048576 ∧ ksBulk keys ≤ 1048576 := by simp only [Tree.bulk] at hmax hn; omega
  have hll := len_bulk kids
  have hlk := len_ks keys
  simp only [ValSep] at hv
  obtain ⟨kv, a, cap, m, rfl, hk, hlm, hmh, hl, hm, hnil, hx⟩ := hv
  obtain ⟨ka, kc, rfl, hkl0, hkm0, hkn⟩ := hk.1.len
  obtain ⟨bb, boff, bd, C, hD⟩ := kidD_of hmh hl hnil hx
  simp only [wholeT] at hw
  obtain ⟨hp, hwk⟩ := hw
  have hKD : ∃ kb ko, keys ≠ [] → ka = some ⟨kb, ko, none⟩ ∧ kb < w.heap.size ∧ Btw lo m kb ∧ (∀ o, w.frozen? ⟨kb, o, none⟩ = false) ∧ (kids ≠ [] → kb ≠ bb) ∧ ∀ j (h : j < keys.length), w.cell? ⟨kb, ko + j, none⟩ = some (.string keys[j]) := by
    by_cases hne : keys = []
    · exact ⟨0, 0, fun h => absurd hne h⟩
    · obtain ⟨kb, ko, rfl, h1, h2⟩ := hk.1.at (List.length_pos_iff.2 hne)
      obtain ⟨h3, h4⟩ := hk.2 kb rfl hne
      exact ⟨kb, ko, fun _ => ⟨rfl, h1, h3, h4, fun hk2 e => (hD.addr hk2).2.2.2.1 (by rw [e]; rfl), h2⟩⟩
  obtain ⟨kb, ko, hKD⟩ := hKD
  have HM2 := Lib.hid (And.intro hm (And.intro hkm0 (And.intro hkn hnil)))
  unfold maxLen at hm hkm0
  have f0 : w.cell? ⟨b, off, none⟩ = some (.int .i64 kind) := hcs 0 _ rfl
  have f6 := hcs 6 _ rfl
  have f7 := hcs 7 _ rfl
  have HK := Lib.hid hk
  have HKD := Lib.hid hKD
  have HD := Lib.hid hD
  have HP := Lib.hid hp
  have HW := Lib.hid hwk
  have HIH := Lib.hid IH
  have F0 := Lib.hid f0
  have F6 := Lib.hid f6
  have F7 := Lib.hid f7
  have HM := Lib.hid (MidS.start hD)
  clear hcs hk hx IH hKD hD hp hwk hmax hn hkn hnil
  go_enter Tryd.func57, Tryd.ntmps57
  go_wp2_with fail
  go_loopw [13] (fun i wr => ∃ k : Nat, k ≤ kids.length ∧ i = .int .i64 (k : Int) ∧ MidS w kids m hi bd C k wr) (fun i _ => kids.length - (intOf i).toNat)
  case atStart => exact ⟨0, Nat.zero_le _, rfl, HM.out⟩
  case round =>
    clear f0 f6 f7 HM
    obtain ⟨k, hkk, rfl, hmid⟩ := hrel
    have hch := hmid.1
    have hsz := hch.size
    have hbb0 : wr.heap[b]? = w.heap[b]? := hch.block b hbw (fun h => hbn ⟨by have := h.1; omega, h.2⟩)
    have g0 := (cell_same hbb0 _).trans F0.out
    have g6 := (cell_same hbb0 _).trans F6.out
    have g7 := (cell_same hbb0 _).trans F7.out
    have HMID := Lib.hid hmid
    by_cases hkl : k < kids.length
    · have hne : kids ≠ [] := by intro h0; rw [h0] at hkl; simp at hkl
      obtain ⟨rfl, hlt, hbt, hown, hfz⟩ := HD.out.addr hne
      have hkb0 : wr.heap[bb]? = w.heap[bb]? := hch.block bb hlt (fun h => by have := h.1; have := hbt.2; omega)
      have hb0 := bd_le HD.out.mono 0 k (Nat.zero_le _)
      have hb1 := HD.out.b0
      have hb2 := HD.out.top (k + 1)
      have hC := HIH.out kids[k] (by have := bulk_kid hkl; omega) (by have := bulk_kid hkl; omega) ((wholeAll_iff kids).1 HW.out k hkl) wr bb (boff + k * 8) (bd k) (bd (k + 1)) (C k) (by omega) (fun h => by have := h.1; have := hbt.2; omega) (by omega)
        (fun i u hu => (cell_same hkb0 _).trans (HD.out.cell k hkl i u hu)) (hmid.2.2 k hkl (Nat.le_refl _))
      have hltr := Nat.lt_of_lt_of_le hlt hsz
      clear hmid hown hfz hkb0 hch hbb0
      go_wp2_with fail
      refine hC.mono ?_
      clear hC
      rintro e w2 ⟨rfl, hin, hchg⟩
      have HE := Lib.hid (HMID.out.step HD.out hkl hin hchg)
      clear hin hchg g0 g6 g7
      go_wp2_with fail
      go_roundw
      case rel => exact ⟨k + 1, hkl, by go_num, HE.out⟩
      case measure => simp [intOf]; omega
    · obtain rfl : k = kids.length := by omega
      clear hmid
      by_cases h6 : kind = 6
      · subst h6
        obtain ⟨w1, rfl⟩ : ∃ w1, w1 = wr := ⟨_, rfl⟩
        have HLEN : Hid (keys.length = kids.length) := Lib.hid (HP.out.2.2.2.2.2.2.1 rfl)
        have hl1 : keys.length ≤ kids.length := Nat.le_of_eq HLEN.out
        have hl2 : kids.length ≤ keys.length := Nat.le_of_eq HLEN.out.symm
        obtain ⟨L, hL1, hL2⟩ := exists_list (fun j (x : F9) => ∃ h : j < kids.length, x.key = keys[j]'(by omega) ∧ x.t = sortT kids[j] ∧ x.cells = C j) kids.length (fun j hj => by
          obtain ⟨x, x1, x2, x3⟩ := F9.of (keys[j]'(by omega)) (sortT kids[j]) (HD.out.sep j hj)
          exact ⟨x, hj, x1, x2, x3⟩)
        have HL := Lib.hid hL2
        have HCH := Lib.hid hch
        clear hL2 hch
        go_wp2_with (with_reducible first | refine stop_append ?_ | refine stop_make ?_ | refine stop_slice ?_ | refine stop_copy ?_); refine Stop.out ?_
        refine wpList_make_all rfl _ _ _ rfl 97 128 9 _ Tryd.underlying95 Tryd.infoFld _ _ keys.length rfl rfl (by omega) (by unfold maxLen; omega) ?_
        intro M w2 hM hw2
        have hz2 : w2.heap.size = w1.heap.size + 1 := by rw [hw2]; simp
        have hb2 : Below w1.heap.size w1 w2 := by rw [hw2]; exact (Below.refl _ _).alloc (Nat.le_refl _) _
        have hFB : Cells w2 w1.heap.size M 97 := by rw [hw2]; exact Cells.new _ _ _
        have hbr : b < w1.heap.size := by omega
        have k0 := (hb2.cell (p := ⟨b, off, none⟩) hbr).trans g0
        have k6 := (hb2.cell (p := ⟨b, off + 6, none⟩) hbr).trans g6
        have k7 := (hb2.cell (p := ⟨b, off + 7, none⟩) hbr).trans g7
        have hfill : FillF w1.heap.size L 0 w2 := ⟨M, hFB, by rw [hM, hL1, HLEN.out], fun j _ h => by omega⟩
        have HB2 := Lib.hid hb2
        have HFI := Lib.hid hfill
        clear hw2 g0 g6 g7 hb2 hFB hfill hM
        obtain ⟨FB, hFBe⟩ : ∃ FB, FB = w1.heap.size := ⟨_, rfl⟩
        have HFE := Lib.hid hFBe
        rw [← hFBe] at HFI hz2 hbr hsz ⊢
        clear hFBe
        go_wp2_with fail
        go_loopw [40] (fun i w3 => ∃ k : Nat, k ≤ keys.length ∧ i = .int .i64 (k : Int) ∧ FillF FB L k w3 ∧ Changed (fun x => x = FB) w2 w3) (fun i _ => keys.length - (intOf i).toNat)
        case atStart => exact ⟨0, Nat.zero_le _, rfl, HFI.out, Changed.refl _ _⟩
        case round =>
          clear HFI
          obtain ⟨k, hkk2, rfl, hfi, hch3⟩ := hrel
          obtain ⟨w3, rfl⟩ : ∃ w3, w3 = wr := ⟨_, rfl⟩
          have hz3 := hch3.size
          have hbb3 : w3.heap[b]? = w2.heap[b]? := hch3.block b (by omega) (by omega)
          have q6 := (cell_same hbb3 _).trans k6
          have q7 := (cell_same hbb3 _).trans k7
          have HCH3 := Lib.hid hch3
          by_cases hkl2 : k < keys.length
          · have hkn2 : keys ≠ [] := by intro h0; rw [h0] at hkl2; simp at hkl2
            have hne : kids ≠ [] := by intro h0; rw [h0] at hl1; simp at hl1; exact hkn2 hl1
            obtain ⟨rfl, hkb1, hkb2, hkb3, hkb4, hkb5⟩ := HKD.out hkn2
            obtain ⟨rfl, hlt, hbt, hown, hfz⟩ := HD.out.addr hne
            have eK : w3.heap[kb]? = w.heap[kb]? := (hch3.block kb (by omega) (by omega)).trans ((HB2.out.block kb (by have := HFE.out; omega)).trans (HCH.out.block kb hkb1 (fun h => by have := h.1; have := hkb2.2; omega)))
            have eB : w3.heap[bb]? = w.heap[bb]? := (hch3.block bb (by omega) (by omega)).trans ((HB2.out.block bb (by have := HFE.out; omega)).trans (HCH.out.block bb hlt (fun h => by have := h.1; have := hbt.2; omega)))
            have r0 := (cell_same eK (ko + k)).trans (hkb5 k hkl2)
            have hkL : k < L.length := by omega
            obtain ⟨hk', x1, x2, x3⟩ := HL.out k hkL
            have hm' : ∀ i u, (C k)[i]? = some u → w3.cell? ⟨bb, boff + k * 8 + i, none⟩ = some u := fun i u hu => (cell_same eB _).trans (HD.out.cell k (by omega) i u hu)
            have HF2 := Lib.hid (hfi.step hkL)
            obtain ⟨arr, ha, hs, -⟩ := hfi
            rw [← x3] at hm'
            rw [← x1] at r0
            clear hkb5 hfz eK eB x1 x2 x3 hch3
            generalize L[k] = x at *
            obtain ⟨xkey, xt, xkind, xis, xneg, xdig, xexp, xstr, xka, xkn, xkc, xsa, xsn, xsc⟩ := x
            simp only [F9.cells, F9.enc] at hm' r0 HF2
            have m0 : w3.cell? ⟨bb, boff + k * 8, none⟩ = some (.int .i64 xkind) := hm' 0 _ rfl
            have m1 := hm' 1 _ rfl
            have m2 := hm' 2 _ rfl
            have m3 := hm' 3 _ rfl
            have m4 := hm' 4 _ rfl
            have m5 := hm' 5 _ rfl
            have m6 := hm' 6 _ rfl
            have m7 := hm' 7 _ rfl
            have z0 := ha.cell (k * 9 + 0) _ (Array.getElem?_eq_getElem (by omega))
            have y0 := ha.frozen (k * 9 + 0)
            have z1 := ha.cell (k * 9 + 1) _ (Array.getElem?_eq_getElem (by omega))
            have y1 := ha.frozen (k * 9 + 1)
            have z2 := ha.cell (k * 9 + 2) _ (Array.getElem?_eq_getElem (by omega))
            have y2 := ha.frozen (k * 9 + 2)
            have z3 := ha.cell (k * 9 + 3) _ (Array.getElem?_eq_getElem (by omega))
            have y3 := ha.frozen (k * 9 + 3)
            have z4 := ha.cell (k * 9 + 4) _ (Array.getElem?_eq_getElem (by omega))
            have y4 := ha.frozen (k * 9 + 4)
            have z5 := ha.cell (k * 9 + 5) _ (Array.getElem?_eq_getElem (by omega))
            have y5 := ha.frozen (k * 9 + 5)
            have z6 := ha.cell (k * 9 + 6) _ (Array.getElem?_eq_getElem (by omega))
            have y6 := ha.frozen (k * 9 + 6)
            have z7 := ha.cell (k * 9 + 7) _ (Array.getElem?_eq_getElem (by omega))
            have y7 := ha.frozen (k * 9 + 7)
            have z8 := ha.cell (k * 9 + 8) _ (Array.getElem?_eq_getElem (by omega))
            have y8 := ha.frozen (k * 9 + 8)
            simp only [Nat.add_zero] at z0 y0
            have hlta := ha.lt
            have hltK : kb < w3.heap.size := by omega
            have hltB : bb < w3.heap.size := by omega
            have HC3 := Lib.hid (HCH3.out.setAll (B := FB) rfl [.string xkey, .int .i64 xkind, .bool xis, .bool xneg, .string xdig, .int .i64 xexp, .string xstr, .slice xka xkn xkc, .slice xsa xsn xsc] (k * 9))
            clear hm' ha hbb3 k0 k6 k7
            go_wp2_with fail
            go_roundw
            case rel => exact ⟨k + 1, hkl2, by go_num, HF2.out, HC3.out⟩
            case measure => simp [intOf]; omega
          · obtain rfl : k = keys.length := by omega
            have hbt3 := byText_any w3
            clear q6 q7
            go_wp2_with fail
            refine hbt3.mono ?_
            clear hbt3
            rintro e w4 ⟨rfl, hw4⟩
            have hb4 : Below w3.heap.size w3 w4 := by rw [hw4]; exact (Below.refl _ _).alloc (Nat.le_refl _) _
            have hX4 : w4.cell? ⟨w3.heap.size, 0, none⟩ = some (.func (.func 83) #[] #[]) := by rw [hw4]; exact (Cells.new _ #[.func (.func 83) #[] #[]] _).cell 0 _ rfl
            obtain ⟨hz1, hz2'⟩ := fields_zip HLEN.out hL1 HL.out
            obtain ⟨arr, ha, hs, hf⟩ := hfi
            have hlta := ha.lt
            have ha4 := ha.below hb4 hlta
            have hz4 := hb4.size
            have hSF := sortFields_any w3.heap.size FB keys.length L w4 hX4 (by omega) (by omega) (fun i hi c u hu => ha4.cell _ _ (hf i hi (by omega) c u hu)) (fun o => ha4.frozen o) (by omega) (by rw [hz1]; exact HP.out.2.2.2.2.2.2.2.2.2.2)
            rw [hL1, ← HLEN.out, hz2'] at hSF
            have HB4 := Lib.hid hb4
            clear hw4 hX4 ha ha4 hf hs hz1 hz2' hb4 hch3
            go_wp2_with fail
            refine hSF.mono ?_
            clear hSF
            rintro e w5 ⟨rfl, L', hp', hfl', hch5, hc5⟩
            have HO := Lib.hid (OutS.start HD.out HMID.out HKD.out HLEN.out HB2.out HCH3.out HB4.out hch5 HFE.out hlm hmh hhi hL1 HL.out hp' hc5)
            have hLl : L'.length = keys.length := by rw [hp'.length_eq, hL1, HLEN.out]
            have HFL := Lib.hid hfl'
            have hz5 := hch5.size
            clear hp' hfl' hch5 hc5 k0 k6 k7 hbb3 HCH3 HB4
            go_wp2_with fail
            go_loopw [63] (fun i w6 => ∃ k : Nat, k ≤ keys.length ∧ i = .int .i64 (k : Int) ∧ OutS w w6 L' kb ko bb boff FB lo m hi k) (fun i _ => keys.length - (intOf i).toNat)
            case atStart => exact ⟨0, Nat.zero_le _, rfl, HO.out⟩
            case round =>
              clear HO
              obtain ⟨k, hkk3, rfl, hO⟩ := hrel
              obtain ⟨w6, rfl⟩ : ∃ w6, w6 = wr := ⟨_, rfl⟩
              have hz6 := hO.chg.size
              have hbb6 := hO.chg.block b hbw hbn
              by_cases hkl3 : k < keys.length
              · have hkn2 : keys ≠ [] := by intro h0; rw [h0] at hkl3; simp at hkl3
                have hne : kids ≠ [] := by intro h0; rw [h0] at hl1; simp at hl1; exact hkn2 hl1
                obtain ⟨rfl, hkb1, hkb2, hkb3, hkb4, -⟩ := HKD.out hkn2
                obtain ⟨rfl, hlt, hbt, -, -⟩ := HD.out.addr hne
                have hkL : k < L'.length := by omega
                have hLn : L' ≠ [] := by intro h0; rw [h0] at hkL; simp at hkL
                have hkbb := hkb4 hne
                have hst := fun (w7 : World) (hb : Below w6.heap.size w6 w7) => (hO.below hb).step hkL hkbb (by omega) (by omega) hkb2 hbt hmh
                have hf := hO.fld k hkL
                obtain ⟨u0, hu0⟩ := hO.keyo k hkL
                have hfk := hO.kf (ko + k) hLn
                obtain ⟨v0, hv0⟩ := hO.kido k hkL 0 (by omega)
                obtain ⟨v1, hv1⟩ := hO.kido k hkL 1 (by omega)
                obtain ⟨v2, hv2⟩ := hO.kido k hkL 2 (by omega)
                obtain ⟨v3, hv3⟩ := hO.kido k hkL 3 (by omega)
                obtain ⟨v4, hv4⟩ := hO.kido k hkL 4 (by omega)
                obtain ⟨v5, hv5⟩ := hO.kido k hkL 5 (by omega)
                obtain ⟨v6, hv6⟩ := hO.kido k hkL 6 (by omega)
                obtain ⟨v7, hv7⟩ := hO.kido k hkL 7 (by omega)
                have y0 := hO.bf (boff + k * 8) hLn
                have y1 := hO.bf (boff + k * 8 + 1) hLn
                have y2 := hO.bf (boff + k * 8 + 2) hLn
                have y3 := hO.bf (boff + k * 8 + 3) hLn
                have y4 := hO.bf (boff + k * 8 + 4) hLn
                have y5 := hO.bf (boff + k * 8 + 5) hLn
                have y6 := hO.bf (boff + k * 8 + 6) hLn
                have y7 := hO.bf (boff + k * 8 + 7) hLn
                rw [Nat.add_zero] at hv0
                clear hO
                generalize L'[k] = x at *
                obtain ⟨xkey, xt, xkind, xis, xneg, xdig, xexp, xstr, xka, xkn, xkc, xsa, xsn, xsc⟩ := x
                simp only [F9.cells, F9.enc] at hf hst
                have HST := Lib.hid hst
                have z0 : w6.cell? ⟨FB, k * 9, none⟩ = some (.string xkey) := hf 0 _ rfl
                have z1 := hf 1 _ rfl
                have z2 := hf 2 _ rfl
                have z3 := hf 3 _ rfl
                have z4 := hf 4 _ rfl
                have z5 := hf 5 _ rfl
                have z6 := hf 6 _ rfl
                have z7 := hf 7 _ rfl
                have z8 := hf 8 _ rfl
                have s6 := (cell_same hbb6 _).trans F6.out
                have s7 := (cell_same hbb6 _).trans F7.out
                have hbx : b < w6.heap.size := by omega
                have hkx : kb < w6.heap.size := by omega
                have hbbx : bb < w6.heap.size := by omega
                have hb7 : Below w6.heap.size w6 (w6.alloc (.cells #[.string xkey, .int .i64 xkind, .bool xis, .bool xneg, .string xdig, .int .i64 xexp, .string xstr, .slice xka xkn xkc, .slice xsa xsn xsc] 97)) := (Below.refl _ _).alloc (Nat.le_refl _) _
                have hN := Cells.new w6 #[.string xkey, .int .i64 xkind, .bool xis, .bool xneg, .string xdig, .int .i64 xexp, .string xstr, .slice xka xkn xkc, .slice xsa xsn xsc] 97
                clear hst hf hbb6
                go_wp2_with fail
                generalize w6.alloc (.cells #[.string xkey, .int .i64 xkind, .bool xis, .bool xneg, .string xdig, .int .i64 xexp, .string xstr, .slice xka xkn xkc, .slice xsa xsn xsc] 97) = w7 at *
                replace s6 := (hb7.cell (p := ⟨b, off + 6, none⟩) hbx).trans s6
                replace s7 := (hb7.cell (p := ⟨b, off + 7, none⟩) hbx).trans s7
                replace hu0 := (hb7.cell (p := ⟨kb, ko + k, none⟩) hkx).trans hu0
                replace hfk := (frozen_same (hb7.block kb hkx) (ko + k)).trans hfk
                replace hv0 := (hb7.cell (p := ⟨bb, boff + k * 8, none⟩) hbbx).trans hv0
                replace hv1 := (hb7.cell (p := ⟨bb, boff + k * 8 + 1, none⟩) hbbx).trans hv1
                replace hv2 := (hb7.cell (p := ⟨bb, boff + k * 8 + 2, none⟩) hbbx).trans hv2
                replace hv3 := (hb7.cell (p := ⟨bb, boff + k * 8 + 3, none⟩) hbbx).trans hv3
                replace hv4 := (hb7.cell (p := ⟨bb, boff + k * 8 + 4, none⟩) hbbx).trans hv4
                replace hv5 := (hb7.cell (p := ⟨bb, boff + k * 8 + 5, none⟩) hbbx).trans hv5
                replace hv6 := (hb7.cell (p := ⟨bb, boff + k * 8 + 6, none⟩) hbbx).trans hv6
                replace hv7 := (hb7.cell (p := ⟨bb, boff + k * 8 + 7, none⟩) hbbx).trans hv7
                replace y0 := (frozen_same (hb7.block bb hbbx) (boff + k * 8)).trans y0
                replace y1 := (frozen_same (hb7.block bb hbbx) (boff + k * 8 + 1)).trans y1
                replace y2 := (frozen_same (hb7.block bb hbbx) (boff + k * 8 + 2)).trans y2
                replace y3 := (frozen_same (hb7.block bb hbbx) (boff + k * 8 + 3)).trans y3
                replace y4 := (frozen_same (hb7.block bb hbbx) (boff + k * 8 + 4)).trans y4
                replace y5 := (frozen_same (hb7.block bb hbbx) (boff + k * 8 + 5)).trans y5
                replace y6 := (frozen_same (hb7.block bb hbbx) (boff + k * 8 + 6)).trans y6
                replace y7 := (frozen_same (hb7.block bb hbbx) (boff + k * 8 + 7)).trans y7
                have r0 := hN.cell 0 _ rfl
                have r1 := hN.cell 1 _ rfl
                have r2 := hN.cell 2 _ rfl
                have r3 := hN.cell 3 _ rfl
                have r4 := hN.cell 4 _ rfl
                have r5 := hN.cell 5 _ rfl
                have r6 := hN.cell 6 _ rfl
                have r7 := hN.cell 7 _ rfl
                have r8 := hN.cell 8 _ rfl
                have hlN := hN.lt
                have hsz7 := hb7.size
                have hkl4 : k < kids.length := by omega
                have n1 : ¬ kb = bb := hkbb
                have n2 : ¬ bb = kb := fun e => hkbb e.symm
                have n3 : ¬ kb = b := fun e => hbn (by rw [← e]; exact ⟨hkb2.1, by have := hkb2.2; omega⟩)
                have n4 : ¬ b = kb := fun e => n3 e.symm
                have n5 : ¬ bb = b := fun e => hbn (by rw [← e]; exact ⟨hbt.1, by have := hbt.2; omega⟩)
                have n6 : ¬ b = bb := fun e => n5 e.symm
                have n7 : ¬ kb = w6.heap.size := by omega
                have n8 : ¬ w6.heap.size = kb := by omega
                have n9 : ¬ bb = w6.heap.size := by omega
                have na : ¬ w6.heap.size = bb := by omega
                have HB7 := Lib.hid hb7
                clear z0 z1 z2 z3 z4 z5 z6 z7 z8 hb7 hN
                go_region_held3 (fun w' => w'.cell? ⟨b, off + 6, none⟩ = some (.slice (some ⟨kb, ko, none⟩) keys.length kc) ∧ w'.cell? ⟨b, off + 7, none⟩ = some (.slice (some ⟨bb, boff, none⟩) kids.length cap) ∧ w'.cell? ⟨w6.heap.size, 0, none⟩ = some (.string xkey) ∧ w'.cell? ⟨w6.heap.size, 1, none⟩ = some (.int .i64 xkind) ∧ w'.cell? ⟨w6.heap.size, 2, none⟩ = some (.bool xis) ∧ w'.cell? ⟨w6.heap.size, 3, none⟩ = some (.bool xneg) ∧ w'.cell? ⟨w6.heap.size, 4, none⟩ = some (.string xdig) ∧ w'.cell? ⟨w6.heap.size, 5, none⟩ = some (.int .i64 xexp) ∧ w'.cell? ⟨w6.heap.size, 6, none⟩ = some (.string xstr) ∧ w'.cell? ⟨w6.heap.size, 7, none⟩ = some (.slice xka xkn xkc) ∧ w'.cell? ⟨w6.heap.size, 8, none⟩ = some (.slice xsa xsn xsc)) (first | (with_reducible exact ⟨s6, s7, r0, r1, r2, r3, r4, r5, r6, r7, r8⟩) | go_keep) (fail)
                all_goals
                  go_wp2_with fail
                  go_roundw
                case rel =>
                  exact ⟨k + 1, hkl3, by go_num, (HST.out _ HB7.out).below (Below.refl _ _).drew⟩
                case measure => simp [intOf]; omega
              · obtain rfl : k = keys.length := by omega
                have HOO := Lib.hid hO
                clear hO hbb6
                go_wp2_with fail
                go_end0
                obtain ⟨m1, m2, m3, m4⟩ := HM2.out
                have hO := HOO.out
                rw [← hLl] at hO
                exact ⟨rfl, hO.done HLEN.out hLl HFL.out (fun h => ⟨(HKD.out h).1, (HKD.out h).2.2.1⟩) (fun h => ⟨(HD.out.addr h).1, (HD.out.addr h).2.2.1⟩) hkl0 m2 m3 hl m1 m4 hmh, hO.chg⟩
      · have H6 := Lib.hid h6
        have b6 : (kind != 6) = true := by rw [bne_iff_ne]; exact h6
        clear h6
        go_wp2_with fail
        refine bodyPost_ret (v := .tuple #[]) (by simp [results, Tryd.results57, go_sem]) rfl ?_
        have h6 := H6.out
        have hk0 : keys = [] := by
          rcases HP.out.2.2.2.2.1 with h | h
          · exact absurd h h6
          · exact List.length_eq_zero_iff.1 h
        subst hk0
        obtain ⟨m1, m2, m3, m4⟩ := HM2.out
        exact ⟨rfl, HMID.out.done HD.out h6 HK.out.1 hl m1 m4 hlm hmh, HMID.out.1.mono (fun x hx => ⟨by have := hx.1; omega, hx.2⟩)⟩
theorem sortAll_any (n : Nat) : ∀ (t : Tree), t.bulk ≤ n → t.bulk ≤ 1048576 → wholeT t → ∀ (w : World) (b off lo hi : Nat) (cs : List Value), b < w.heap.size → ¬ Btw lo hi b → hi ≤ w.heap.size → (∀ (j : Nat) (u : Value), cs[j]? = some u → w.cell? ⟨b, off + j, none⟩ = some u) → ValSep w t cs lo hi →
      Calls Tryd.prog 57 #[.pointer (some ⟨b, off, none⟩)] w fun e w' => e = .returned (.tuple #[]) ∧ ValIn (Btw lo hi) w' (sortT t) cs ∧ Changed (Btw lo hi) w w' := by
  induction n with
  | zero => intro t h; have := bulk_pos t; omega
  | succ n IH =>
    intro t h hmax hw w b off lo hi cs hb hbn hhi hcs hv
    cases t
    exact sortAll_step n IH _ _ _ _ _ _ _ _ h hmax hw w b off lo hi cs hb hbn hhi hcs hv
end Go.Proofs.YtpcfhiipkbpmkaaDoor
