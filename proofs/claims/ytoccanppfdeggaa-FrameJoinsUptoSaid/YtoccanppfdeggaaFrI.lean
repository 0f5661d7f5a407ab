/- The walk of FramePuts: it returns true. -/
import Derived.Test.YtoccanppfdeggaaFrH
namespace Go.Proofs.Ytoccanppfdeggaa
open Go.RowKit Go.Tab

theorem SlsAt.elem {w : World} {v : Value} {vs : List Sl} {ls : List (List UInt8)} (h : SlsAt w v vs ls) {a : Option Addr} {n cap : Nat} (hv : v = .slice a n cap) {k : Nat} (hk : k < vs.length) :
    ∃ b o s bk, a = some ⟨b, o, none⟩ ∧ b < w.heap.size ∧ w.cell? ⟨b, o + k, none⟩ = some (slV s) ∧ BytesAt w (slV s) bk ∧ ls[k]? = some bk := by
  subst hv
  obtain ⟨b, o, rfl, g, c⟩ := h.1.at hk
  have hkl : k < ls.length := by rw [← h.2.1]; exact hk
  exact ⟨b, o, vs[k], ls[k], rfl, g, c k hk, h.2.2 k hk hkl, by simp [hkl]⟩

set_option maxHeartbeats 3000000 in
set_option maxRecDepth 100000 in
theorem FramePuts_walk (a0 : Value) (l0 : List Sl) (m0 : List (List UInt8)) (a1 : Int) (w : World) (w0 : SlsAt w a0 l0 m0) (w1 : (Lit.int .u16 a1).wf = true) :
    Calls Try.prog 9 #[a0, .int .u16 a1] w fun e w' => e = .returned (.bool true) ∧ Below w.heap.size w w' := by
  obtain ⟨c0, rfl, hc0⟩ : ∃ c : Nat, a1 = c ∧ c < 65536 := by
    rw [Lit.wf, Bool.and_eq_true, decide_eq_true_eq, decide_eq_true_eq] at w1
    have e1 : IntKind.u16.min = 0 := rfl
    have e2 : IntKind.u16.max = 65535 := rfl
    exact ⟨a1.toNat, by omega, by omega⟩
  clear w1
  have wk := w0
  obtain ⟨a, cap, rfl, hl, hm, hn⟩ := w0.1.len
  unfold maxLen at hm
  clear w0
  by_cases h : 20 < l0.length ∨ l0.length = 0
  · rcases h with h | h
    · go_enter Try.func9, Try.ntmps9
      go_wp2_with fail
      refine (fwakes_any w).mono ?_
      rintro e w1 ⟨rfl, hb1⟩
      go_wp2
      go_ret
      exact ⟨rfl, hb1⟩
    · have h20 : ¬ 20 < l0.length := by omega
      have hb0 : ((l0.length : Int) == 0) = true := by simp [h]
      clear h
      go_enter Try.func9, Try.ntmps9
      go_wp2_with fail
      refine (fwakes_any w).mono ?_
      rintro e w1 ⟨rfl, hb1⟩
      go_wp2
      go_ret
      exact ⟨rfl, hb1⟩
  · have h20 : l0.length ≤ 20 := by omega
    have h21 : 0 < l0.length := by omega
    have hb0 : ((l0.length : Int) == 0) = false := by rw [beq_eq_false_iff_ne]; omega
    clear h
    go_enter Try.func9, Try.ntmps9
    go_wp2_with fail
    refine (fwakes_any w).mono ?_
    rintro e w2 ⟨rfl, hb2⟩
    go_wp2_with fail
    go_loopw [28] (fun i wr => ∃ k : Nat, k ≤ l0.length ∧ i = .int .i64 k ∧ Below w.heap.size w wr ∧ ∀ b ∈ m0.take k, b.length ≤ 300) (fun i _ => l0.length - (intOf i).toNat)
    case atStart => exact ⟨0, Nat.zero_le _, rfl, hb2, by simp⟩
    case round =>
      obtain ⟨k, hk, rfl, hb2, hall⟩ := hrel
      have HA := Lib.hid hall
      clear hall
      by_cases hkv : k < l0.length
      · obtain ⟨b, o, ⟨sa, sn, sc⟩, bk, rfl, hb, hc, hr, hbk⟩ := (wk.below hb2).elem rfl hkv
        unfold slV at hc hr
        simp only at hc hr
        obtain ⟨x, cx, hx, _, _, _⟩ := hr.len
        cases hx
        by_cases h3 : 300 < bk.length
        · go_wp2
          go_ret
          exact ⟨rfl, hb2⟩
        · have HBK := Lib.hid hbk
          clear hbk
          go_wp2
          go_roundw
          case rel =>
            refine ⟨k + 1, hkv, by go_num, hb2, fun c hc => ?_⟩
            have h5 := HBK.out
            rw [List.getElem?_eq_some_iff] at h5
            obtain ⟨h6, h7⟩ := h5
            rw [List.take_succ_eq_append_getElem h6, List.mem_append] at hc
            rcases hc with hc | hc
            · exact HA.out c hc
            · simp at hc; subst hc; rw [h7]; omega
          case measure => simp [intOf]; omega
      · obtain rfl : k = l0.length := by omega
        have hall : ∀ b ∈ m0, b.length ≤ 300 := by
          have := HA.out
          rwa [show m0.take l0.length = m0 by rw [wk.2.1]; exact List.take_length] at this
        have hpl := puts_length_le m0 300 hall (by omega)
        rw [← wk.2.1] at hpl
        have hpl2 : (puts m0).length ≤ 6200 := by omega
        have hsp := Lib.hid (split_puts m0 fun b hb => by have := hall b hb; omega)
        have hcut := Lib.hid (fun n => split_cut m0 n fun b hb => by have := hall b hb; omega)
        have hpos : 0 < (puts m0).length := by have := puts_ge m0; rw [← wk.2.1] at this; omega
        clear hall HA hpl
        go_wp2_with fail
        refine (FPut_any _ l0 m0 wr (wk.below hb2) (by omega)).mono ?_
        rintro e w3 ⟨v3, rfl, ho3, hb3'⟩
        have hb3 := hb2.trans (hb3'.mono hb2.size)
        have hz3 := hb3.size
        clear hb3'
        have hS := Split_any v3 (puts m0) w3 ho3.row (by omega)
        rw [hsp.out] at hS
        go_wp2_with fail
        refine hS.mono ?_
        rintro e1 w4 ⟨vo, vs, rfl, ho, hfs, hb4'⟩
        have hb4 := hb3.trans (hb4'.mono hz3)
        have hz4 := hb4.size
        have ho4 := ho3.below hb4' (Nat.le_refl _)
        clear hS hb4'
        go_wp2_with fail
        refine (rFPut_any _ l0 m0 w4 (wk.below hb4) (by omega)).mono ?_
        rintro e w5 ⟨v5, rfl, ho5, hb5'⟩
        have hb5 := hb4.trans (hb5'.mono hb4.size)
        have hz5 := hb5.size
        have ho6 := ho4.below hb5' (Nat.le_refl _)
        have hov := ho.below hb5' (Nat.le_refl _)
        have hfs5 : Rows (BytesAt w5) vs m0 := hfs.imp fun s l _ h => (h.row).below hb5' (Nat.le_refl _)
        clear hb5' ho ho4 hfs
        go_wp2_with fail
        refine (Same_yes v3 v5 _ _ w5 ho6.row ho5.row rfl).mono ?_
        rintro e w6 ⟨rfl, hb6'⟩
        have hb6 := hb5.trans (hb6'.mono hb5.size)
        have hz6 := hb6.size
        have e12 : vs.length = l0.length := hfs5.1.trans wk.2.1.symm
        have hr6 := hov.row.below hb6' (Nat.le_refl _)
        have hfs6 : Rows (BytesAt w6) vs m0 := hfs5.imp fun s l _ h => h.below hb6' (Nat.le_refl _)
        have hp6 := ho6.row.below hb6' (Nat.le_refl _)
        have wk6 := wk.below hb6
        clear hb6' hov hfs5 ho6 ho5 ho3
        obtain ⟨x1, c1, rfl, q1, q2, q3⟩ := hr6.len
        obtain ⟨x2, c2, rfl, q4, q5, q6⟩ := hp6.len
        unfold maxLen at q2 q5
        have E12 := Lib.hid e12
        rw [e12] at hr6 ⊢
        clear e12
        go_wp2_with fail
        go_loopw [61] (fun i wr => ∃ k : Nat, k ≤ l0.length ∧ i = .int .i64 k ∧ Below w6.heap.size w6 wr) (fun i _ => l0.length - (intOf i).toNat)
        case atStart => exact ⟨0, Nat.zero_le _, rfl, Below.refl _ _⟩
        case round =>
          obtain ⟨k, hk, rfl, hb7⟩ := hrel
          have hz7 := hb7.size
          by_cases hkv : k < l0.length
          · obtain ⟨b1, o1, s1, bk1, rfl, g1, d1, r1, e1⟩ := SlsAt.elem (ls := m0) (k := k) ⟨hr6.below hb7 (Nat.le_refl _), hfs6.imp fun s l _ h => h.below hb7 (Nat.le_refl _)⟩ rfl (by rw [E12.out]; exact hkv)
            obtain ⟨b2, o2, s2, bk2, rfl, g2, d2, r2, e2⟩ := (wk6.below hb7).elem rfl hkv
            obtain rfl : bk1 = bk2 := by rw [e1] at e2; cases e2; rfl
            obtain ⟨sa1, sn1, sc1⟩ := s1
            obtain ⟨sa2, sn2, sc2⟩ := s2
            unfold slV at d1 d2 r1 r2
            simp only at d1 d2 r1 r2
            have D1 : ∀ x : Under wr, x.w.cell? ⟨b1, o1 + k, none⟩ = some (.slice sa1 sn1 sc1) := fun x => (x.below.cell (by exact g1)).trans d1
            have D2 : ∀ x : Under wr, x.w.cell? ⟨b2, o2 + k, none⟩ = some (.slice sa2 sn2 sc2) := fun x => (x.below.cell (by exact g2)).trans d2
            clear d1 d2 e1 e2
            go_wp2_with fail
            refine wp_region_under wr (by kernel_rfl) (by kernel_rfl) (Below.refl _ _) ?_
            repeat (go_big_quiet_step ((go_at_call 15; exact Under.call _ (Same_yes _ _ _ _ _ (r1.under_of _) (r2.under_of _) rfl))))
            refine wpQuiet_nil ?_
            rintro _ ⟨x, rfl⟩
            have hb8 := hb7.trans (x.below.mono hz7)
            clear D1 D2
            go_wp2
            go_roundw
            case rel => exact ⟨k + 1, hkv, by go_num, hb8⟩
            case measure => simp [intOf]; omega
          · obtain rfl : k = l0.length := by omega
            have hb8 := hb6.trans (hb7.mono hz6)
            have hz8 := hb8.size
            have hp8 := hp6.below hb7 (Nat.le_refl _)
            clear hb7 hz7
            have hcn : ((c0 : Int) % ((puts m0).length : Int)) = ((c0 % (puts m0).length : Nat) : Int) := by simp
            have hnl : c0 % (puts m0).length < (puts m0).length := Nat.mod_lt _ hpos
            obtain ⟨N, hN⟩ : ∃ N, N = c0 % (puts m0).length := ⟨_, rfl⟩
            rw [← hN] at hcn hnl
            have HCN := Lib.hid hcn
            clear hcn hN
            generalize puts m0 = pm at *
            obtain ⟨fs, E, hse⟩ : ∃ fs E, split (pm.take N) = (fs, E) := ⟨_, _, rfl⟩
            have hE := hcut.out N
            rw [hse] at hE
            have hNl : (pm.take N).length ≤ 6200 := by simp; omega
            clear hcut hsp hpos
            go_wp2_with (with_reducible first | refine stop_append ?_ | refine stop_make ?_ | refine stop_slice ?_ | refine stop_copy ?_); refine Stop.out ?_
            rw [HCN.out]
            refine wpList_slice_h rfl _ _ 22 rfl Try.undB Try.sizeB pm (by exact hp8) .i64 _ N rfl rfl (by omega) ?_
            intro v9 hv9 _
            have hS := Split_any v9 (pm.take N) wr hv9 (by omega)
            rw [hse] at hS
            go_wp2_with fail
            refine hS.mono ?_
            rintro e1 w10 ⟨vo, vs3, rfl, _, _, hb10'⟩
            have hb10 := hb8.trans (hb10'.mono hz8)
            have hz10 := hb10.size
            have hp10 := hp8.below hb10' (Nat.le_refl _)
            clear hS hb10'
            go_wp2_with (with_reducible first | refine stop_append ?_ | refine stop_make ?_ | refine stop_slice ?_ | refine stop_copy ?_); refine Stop.out ?_
            refine wpList_slice_h rfl _ _ 22 rfl Try.undB Try.sizeB pm (by exact hp10) .i64 _ N rfl rfl (by omega) ?_
            intro v11 hv11 _
            have hS := rSplit_any v11 (pm.take N) w10 hv11 (by omega)
            rw [hse] at hS
            go_wp2_with fail
            refine hS.mono ?_
            rintro e1 w12 ⟨vo2, vs4, rfl, _, _, hb12'⟩
            have hb12 := hb10.trans (hb12'.mono hz10)
            clear hS hb12' hse
            rcases hE with rfl | rfl
            · go_wp2
              go_ret
              exact ⟨rfl, hb12⟩
            · go_wp2
              go_ret
              exact ⟨rfl, hb12⟩
end Go.Proofs.Ytoccanppfdeggaa
