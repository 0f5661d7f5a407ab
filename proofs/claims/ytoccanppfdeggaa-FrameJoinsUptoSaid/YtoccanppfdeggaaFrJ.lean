/- The walk of FrameJoins: it returns true, where what comes in is of a bulk that a machine bears. -/
import Derived.Test.YtoccanppfdeggaaFrI
namespace Go.Proofs.Ytoccanppfdeggaa
open Go.RowKit Go.Tab

/-- All bytes of a list, and one more of each. -/
def tot (ls : List (List UInt8)) : Nat := (ls.map fun b => b.length + 1).sum
theorem tot_append (a b : List (List UInt8)) : tot (a ++ b) = tot a + tot b := by simp [tot]
theorem tot_snoc (a : List (List UInt8)) (b : List UInt8) : tot (a ++ [b]) = tot a + (b.length + 1) := by simp [tot]
theorem tot_len : ∀ ls : List (List UInt8), ls.length ≤ tot ls
  | [] => by simp
  | b :: ls => by have := tot_len ls; simp [tot] at *; omega
theorem tot_mem : ∀ (ls : List (List UInt8)) (b : List UInt8), b ∈ ls → b.length < tot ls
  | [], _, h => by cases h
  | c :: ls, b, h => by
    rcases List.mem_cons.1 h with rfl | h
    · simp [tot]; omega
    · have := tot_mem ls b h; simp [tot] at *; omega
theorem tot_take (ls : List (List UInt8)) (k : Nat) : tot (ls.take k) ≤ tot ls := by
  conv => rhs; rw [← List.take_append_drop k ls, tot_append]
  omega
theorem puts_tot : ∀ (ls : List (List UInt8)), tot ls < 18446744073709551616 → (puts ls).length ≤ 10 * tot ls
  | [], _ => by simp [puts_nil]
  | b :: ls, h => by
    have e : tot (b :: ls) = b.length + 1 + tot ls := by simp [tot]
    have ih := puts_tot ls (by omega)
    have := put_length_ten (n := b.length) (by omega)
    rw [puts_cons]; simp only [List.length_append]; omega

theorem Rows.append {R : Value → List UInt8 → Prop} {vs vs' : List Sl} {ls ls' : List (List UInt8)} (h : Rows R vs ls) (h' : Rows R vs' ls') : Rows R (vs ++ vs') (ls ++ ls') := by
  obtain ⟨h0, h1⟩ := h
  obtain ⟨h2, h3⟩ := h'
  refine ⟨by simp [h0, h2], fun j a b => ?_⟩
  simp at a b
  by_cases hj : j < vs.length
  · rw [List.getElem_append_left hj, List.getElem_append_left (by omega)]; exact h1 j hj (by omega)
  · rw [List.getElem_append_right (by omega), List.getElem_append_right (by omega)]
    have := h3 (j - vs.length) (by omega) (by omega)
    simp only [h0] at this ⊢
    exact this

set_option maxHeartbeats 3000000 in
set_option maxRecDepth 100000 in
theorem FrameJoins_walk (a0 : Value) (l0 : List Sl) (m0 : List (List UInt8)) (a1 : Value) (l1 : List Sl) (m1 : List (List UInt8)) (w : World) (w0 : SlsAt w a0 l0 m0) (w1 : SlsAt w a1 l1 m1) (hk : tot m0 + tot m1 ≤ 1048576) :
    Calls Try.prog 10 #[a0, a1] w fun e w' => e = .returned (.bool true) ∧ Below w.heap.size w w' := by
  have hl0 : l0.length ≤ tot m0 := by rw [w0.2.1]; exact tot_len m0
  have hl1 : l1.length ≤ tot m1 := by rw [w1.2.1]; exact tot_len m1
  obtain ⟨s0, c0, rfl, p0, p1, p2⟩ := w0.1.len
  obtain ⟨s1, c1, rfl, p3, p4, p5⟩ := w1.1.len
  unfold maxLen at p1 p4
  go_enter Try.func10, Try.ntmps10
  go_wp2_with fail
  refine (fwakes_any w).mono ?_
  rintro e w2 ⟨rfl, hb2⟩
  have hz2 := hb2.size
  go_wp2_with (with_reducible first | refine stop_append ?_ | refine stop_make ?_ | refine stop_slice ?_ | refine stop_copy ?_); refine Stop.out ?_
  refine wpList_append_row (f := slV) rfl _ _ 44 rfl w2.heap.size 22 24 _ Try.underlying44 Try.infoS rfl oneS [] l0 (by exact OwnOf.lit [] (Nat.le_refl _) (by decide)) (by exact (w0.1.below hb2 (Nat.le_refl _)).alloc _) (by unfold maxLen; simp; omega) (by simp; omega) (by simp) _ (Below.refl _ _) ?_
  intro v3 w3 ho3 hb3' _
  have hb3 : Below w.heap.size w w3 := (hb2.alloc hz2 _).trans (hb3'.mono hz2)
  have hz23 := hb3'.size
  simp only [World.size_alloc] at hz23
  have hz3 := hb3.size
  go_wp2_with (with_reducible first | refine stop_append ?_ | refine stop_make ?_ | refine stop_slice ?_ | refine stop_copy ?_); refine Stop.out ?_
  refine wpList_append_row (f := slV) rfl _ _ 44 rfl w2.heap.size 22 24 _ Try.underlying44 Try.infoS rfl oneS ([] ++ l0) l1 (by exact ho3) (by exact w1.1.below hb3 (Nat.le_refl _)) (by unfold maxLen; simp; omega) (by simp; omega) (by omega) _ (Below.refl _ _) ?_
  intro v4 w4 ho4 hb4' _
  have hb4 : Below w.heap.size w w4 := hb3.trans (hb4'.mono hz2)
  have hz4 := hb4.size
  have hR : SlsAt w4 v4 (l0 ++ l1) (m0 ++ m1) := ⟨ho4.row, (w0.2.append w1.2).imp fun s l _ h => h.below hb4 (Nat.le_refl _)⟩
  have hlen : (l0 ++ l1).length = (m0 ++ m1).length := hR.2.1
  have HLEN := Lib.hid hlen
  have ht : tot (m0 ++ m1) ≤ 1048576 := by rw [tot_append]; exact hk
  have htl : (l0 ++ l1).length ≤ 1048576 := by rw [hlen]; exact Nat.le_trans (tot_len _) ht
  obtain ⟨s4, c4, rfl, p6, p7, p8⟩ := hR.1.len
  unfold maxLen at p7
  clear ho3 ho4 hb3' hb4' hb3 hz3 hlen
  generalize hL : l0 ++ l1 = L at *
  generalize hM : m0 ++ m1 = M at *
  have HL := Lib.hid hL
  have HM := Lib.hid hM
  clear hL hM
  go_wp2_with fail
  go_loopw [5, 19] (fun n i wr => ∃ k : Nat, k ≤ L.length ∧ i = .int .i64 k ∧ n = .int .i64 (tot (M.take k) : Nat) ∧ wr = w4) (fun _ i _ => L.length - (intOf i).toNat)
  case atStart => exact ⟨0, Nat.zero_le _, rfl, rfl, rfl⟩
  case round =>
    obtain ⟨k, hkk, rfl, rfl, hw⟩ := hrel
    by_cases hkv : k < L.length
    · obtain ⟨b, o, ⟨sa, sn, sc⟩, bk, rfl, hb, hc, hr, hbk⟩ := hR.elem rfl hkv
      unfold slV at hc hr
      simp only at hc hr
      obtain ⟨x, cx, hx, _, _, _⟩ := hr.len
      cases hx
      have hts : tot (M.take (k + 1)) = tot (M.take k) + (bk.length + 1) := by
        rw [List.getElem?_eq_some_iff] at hbk
        obtain ⟨h6, h7⟩ := hbk
        rw [List.take_succ_eq_append_getElem h6, tot_snoc, h7]
      have htt := tot_take M (k + 1)
      have HTS := Lib.hid hts
      rw [hts] at htt
      have HW := Lib.hid hw
      rw [← hw] at hc
      generalize tot (M.take k) = T at *
      have htb : T + (bk.length + 1) ≤ 1048576 := by omega
      clear hbk hts htt hw
      go_wp2
      go_roundw
      case rel => exact ⟨k + 1, hkv, by go_num, by rw [HTS.out]; go_num, HW.out⟩
      case measure => simp [intOf]; omega
    · obtain rfl : k = L.length := by omega
      have hfull : M.take L.length = M := by rw [HLEN.out]; exact List.take_length
      subst hw
      rw [hfull]
      clear hfull
      by_cases h2 : 2000 < tot M
      · generalize tot M = T at *
        go_wp2
        go_ret
        exact ⟨rfl, hb4⟩
      · have hT := Nat.not_lt.1 h2
        have HT := hT
        rw [← HM.out, tot_append] at HT
        have hq0 : (puts m0).length ≤ 20000 := Nat.le_trans (puts_tot m0 (by omega)) (by omega)
        have hq1 : (puts m1).length ≤ 20000 := Nat.le_trans (puts_tot m1 (by omega)) (by omega)
        have hqm : puts M = puts m0 ++ puts m1 := by rw [← HM.out, puts_append]
        have hqml : (puts M).length ≤ 40000 := by rw [hqm]; simp; omega
        have hsp := Lib.hid (split_puts M fun b hb => by have := tot_mem M b hb; omega)
        have HQ := Lib.hid hqm
        have hLL : L.length = l0.length + l1.length := by rw [← HL.out]; simp
        have HLL := Lib.hid hLL
        clear HT hqm hLL
        generalize tot M = T at *
        go_wp2_with fail
        refine (FPut_any _ l0 m0 wr (w0.below hb4) (by omega)).mono ?_
        rintro e w5 ⟨v5, rfl, ho5, hb5'⟩
        have hb5 := hb4.trans (hb5'.mono hz4)
        have hz5 := hb5.size
        have hz45 := hb5'.size
        go_wp2_with fail
        refine (FPut_any _ l1 m1 w5 (w1.below hb5) (by omega)).mono ?_
        rintro e w6 ⟨v6, rfl, ho6, hb6'⟩
        have hb6 := hb5.trans (hb6'.mono hz5)
        have hz6 := hb6.size
        have hz56 := hb6'.size
        have ho56 := ho5.below hb6' (Nat.le_refl _)
        have hr6 := ho6.row
        clear ho6
        go_wp2_with (with_reducible first | refine stop_append ?_ | refine stop_make ?_ | refine stop_slice ?_ | refine stop_copy ?_); refine Stop.out ?_
        refine wpList_append_row (f := byteV) rfl _ _ 22 rfl wr.heap.size 5 1 _ Try.underlying22 Try.infoB rfl oneB (puts m0) (puts m1) (by exact ho56) (by exact hr6) (by unfold maxLen; omega) (by omega) (by omega) _ (Below.refl _ _) ?_
        intro v7 w7 ho7 hb7' _
        rw [← HQ.out] at ho7
        have hb7 : Below w.heap.size w w7 := hb6.trans (hb7'.mono hz4)
        have hz7 := hb7.size
        clear hb7' ho56 hr6 hb6' hb5'
        have hS := Split_any v7 (puts M) w7 ho7.row (by omega)
        rw [hsp.out] at hS
        go_wp2_with fail
        refine hS.mono ?_
        rintro e1 w8 ⟨vo, vs, rfl, ho, hfs, hb8'⟩
        have hb8 := hb7.trans (hb8'.mono hz7)
        have hz8 := hb8.size
        have hp8 := ho7.row.below hb8' (Nat.le_refl _)
        have e12 : vs.length = L.length := hfs.1.trans HLEN.out.symm
        obtain ⟨x1, c1', rfl, q1, q2, q3⟩ := ho.row.len
        unfold maxLen at q2
        rw [e12]
        clear hS hb8' ho7 ho hfs e12 q1 q3
        go_wp2_with (with_reducible first | refine stop_append ?_ | refine stop_make ?_ | refine stop_slice ?_ | refine stop_copy ?_); refine Stop.out ?_
        refine wpList_append_row (f := slV) rfl _ _ 44 rfl w8.heap.size 22 24 _ Try.underlying44 Try.infoS rfl oneS [] l0 (by exact OwnOf.lit [] (Nat.le_refl _) (by decide)) (by exact (w0.1.below hb8 (Nat.le_refl _)).alloc _) (by unfold maxLen; simp; omega) (by simp; omega) (by simp) _ (Below.refl _ _) ?_
        intro v9 w9 ho9 hb9' _
        have hb9 : Below w.heap.size w w9 := (hb8.alloc hz8 _).trans (hb9'.mono hz8)
        have hz9 := hb9.size
        have hz89 := hb9'.size
        simp only [World.size_alloc] at hz89
        have hb89 : Below w8.heap.size w8 w9 := ((Below.refl _ _).alloc (Nat.le_refl _) _).trans hb9'
        go_wp2_with (with_reducible first | refine stop_append ?_ | refine stop_make ?_ | refine stop_slice ?_ | refine stop_copy ?_); refine Stop.out ?_
        refine wpList_append_row (f := slV) rfl _ _ 44 rfl w8.heap.size 22 24 _ Try.underlying44 Try.infoS rfl oneS ([] ++ l0) l1 (by exact ho9) (by exact w1.1.below hb9 (Nat.le_refl _)) (by unfold maxLen; simp; omega) (by simp; omega) (by omega) _ (Below.refl _ _) ?_
        intro v10 w10 ho10 hb10' _
        have hb10 : Below w.heap.size w w10 := hb9.trans (hb10'.mono hz8)
        have hz10 := hb10.size
        have hR10 : SlsAt w10 v10 L M := by
          have h1 := ho10.row
          rw [List.nil_append, HL.out] at h1
          refine ⟨h1, ?_⟩
          rw [← HL.out, ← HM.out]
          exact (w0.2.append w1.2).imp fun s l _ h => h.below hb10 (Nat.le_refl _)
        have hp10 : BytesAt w10 v7 (puts M) := hp8.below (hb89.trans hb10') (Nat.le_refl _)
        clear ho9 ho10 hb9' hb10' hp8 hb89
        go_wp2_with fail
        refine (rFPut_any _ L M w10 hR10 (by omega)).mono ?_
        rintro e w11 ⟨v11, rfl, ho11, hb11'⟩
        have hb11 := hb10.trans (hb11'.mono hz10)
        have hz11 := hb11.size
        have hp11 := hp10.below hb11' (Nat.le_refl _)
        clear hb11'
        go_wp2_with fail
        refine (Same_yes _ _ _ _ w11 hp11 ho11.row rfl).mono ?_
        rintro e w12 ⟨rfl, hb12'⟩
        have hb12 := hb11.trans (hb12'.mono hz11)
        have heq : ((L.length : Int) == (l0.length : Int) + (l1.length : Int)) = true := by rw [beq_iff_eq, HLL.out]; simp
        clear hp11 ho11 hb12'
        go_wp2
        go_ret
        exact ⟨rfl, hb12⟩
end Go.Proofs.Ytoccanppfdeggaa
