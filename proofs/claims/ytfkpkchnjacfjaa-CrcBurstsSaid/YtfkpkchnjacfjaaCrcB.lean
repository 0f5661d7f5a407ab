/- Contracts of functions that the statements on sums reach. No condition but the bounds that each names. -/
import Derived.Test.YtfkpkchnjacfjaaCrcA
namespace Go.Proofs.Ytfkpkchnjacfjaa
open Go.RowKit Go.Tab

theorem Of_any (v : Value) (l : List UInt8) (w : World) (hv : BytesAt w v l) :
    Calls Try.prog 9 #[v] w fun e w' => e = .returned (.int .u32 (sum l : Nat)) ∧ Below w.heap.size w w' := by
  have hv1 := hv.alloc (.cells #[.int .u32 4294967295] 44)
  have hc1 : (w.alloc (.cells #[.int .u32 4294967295] 44)).cell? ⟨w.heap.size, 0, none⟩ = some (.int .u32 (4294967295 : Nat)) := by
    rw [World.cell?_alloc_at _ _ _ _ rfl]; rfl
  have hf1 : (w.alloc (.cells #[.int .u32 4294967295] 44)).frozen? ⟨w.heap.size, 0, none⟩ = false := World.frozen?_alloc_at _ _ _ _ rfl
  have hlt := reg_lt 4294967295 l (by omega)
  go_enter Try.func9, Try.ntmps9
  go_wp2_with fail
  refine (New_any w).mono ?_
  rintro e w' ⟨rfl, rfl⟩
  go_wp2_with fail
  refine (Add_any _ _ v l (by omega) _ hc1 hf1 hv1).mono ?_
  rintro e w' ⟨rfl, rfl⟩
  go_wp2_with fail
  refine (Value_any _ _ hlt _ ?_).mono ?_
  · rw [World.cell?_alloc_at _ _ _ _ rfl]; rfl
  rintro e w' ⟨rfl, rfl⟩
  go_wp2
  go_ret
  exact ⟨rfl, (Below.refl _ _).alloc (Nat.le_refl _) _⟩

theorem sum_nine : sum [49, 50, 51, 52, 53, 54, 55, 56, 57] = 3421780262 := by decide +kernel

/-- A block that a literal of bytes has laid. -/
theorem bytes_new (w : World) (l : List UInt8) (t : TypeId) (f : Nat × Nat) (h : l.length ≤ maxLen) : BytesAt (w.alloc (.cells (l.map fun c => Value.int .u8 c.toNat).toArray t f)) (.slice (some ⟨w.heap.size, 0, none⟩) l.length l.length) l := by
  refine ⟨_, l.length, rfl, Nat.le_refl _, h, (fun h => by cases h), fun x hx _ => ?_⟩
  cases hx
  refine ⟨rfl, by simp, fun j hj => ?_⟩
  rw [World.cell?_alloc_mark]
  simp [hj]

set_option maxRecDepth 10000 in
theorem wakes_any (w : World) : Calls Try.prog 8 #[] w fun e w' => e = .returned (.bool true) ∧ Below w.heap.size w w' := by
  have hb := bytes_new w [49, 50, 51, 52, 53, 54, 55, 56, 57] 5 (9, 10) (by decide)
  have kc := fun (w : World) (C : Array Value) (n c : Nat) => Lib.run_convert_bytes_const (P := Try.prog) w 22 5 C n c Try.underlying22 Try.underlying5
  have hs := Lib.hid sum_nine
  have ha := (Below.refl w.heap.size w).alloc (Nat.le_refl _) (.cells ([49, 50, 51, 52, 53, 54, 55, 56, 57].map fun c : UInt8 => Value.int .u8 c.toNat).toArray 5 (9, 10))
  go_enter Try.func8, Try.ntmps8
  go_wp2_with fail
  refine (Of_any _ _ _ hb).mono ?_
  rintro e w' ⟨rfl, hbel⟩
  rw [hs.out]
  go_wp2
  go_ret
  exact ⟨rfl, ha.trans (hbel.mono (by simp))⟩

set_option maxHeartbeats 400000 in
theorem Entry_any (c : Nat) (hc : c < 256) (w : World) :
    Calls Try.prog 16 #[.int .i64 c] w fun e w' => e = .returned (.int .u32 (stps 8 c : Nat)) ∧ w = w' := by
  go_enter Try.func16, Try.ntmps16
  go_wp2
  go_loop [3, 4] (fun n i => ∃ k : Nat, k ≤ 8 ∧ i = .int .i64 k ∧ n = .int .u32 (stps k c : Nat)) (fun _ i => 8 - (intOf i).toNat)
  case atStart => exact ⟨0, by omega, rfl, rfl⟩
  case round =>
    obtain ⟨k, hk, rfl, rfl⟩ := hrel
    have hlt := stps_lt k c (by omega)
    have H2 := Lib.hid (u32_xorP (stps k c / 2) (by omega))
    have H3 : Hid (stps (k + 1) c = if stps k c % 2 = 1 then (stps k c / 2) ^^^ 3988292384 else stps k c / 2) := Lib.hid rfl
    go_wp2
    · rename_i h1
      go_round
      case rel => exact ⟨k + 1, by omega, by go_num, by rw [H3.out, if_pos (by simp only [beq_iff_eq] at h1; omega)]; rw [show ((stps k c : Nat) : Int) / 2 = ((stps k c / 2 : Nat) : Int) by simp, H2.out]⟩
      case measure => simp [intOf]; omega
    · rename_i h1
      go_round
      case rel => exact ⟨k + 1, by omega, by go_num, by rw [H3.out, if_neg (by simp only [beq_eq_false_iff_ne] at h1; omega)]; simp⟩
      case measure => simp [intOf]; omega
    · obtain rfl : k = 8 := by omega
      go_ret
      exact ⟨rfl, rfl⟩

theorem u32_sub (n : Nat) (h : n < 4294967296) : IntKind.u32.wrap (4294967295 - (n : Int)) = ((4294967295 - n : Nat) : Int) := by
  rw [IntKind.wrap_u32']; omega

set_option maxHeartbeats 400000 in
theorem rOf_any (v : Value) (l : List UInt8) (w : World) (hv : BytesAt w v l) :
    Calls Try.prog 14 #[v] w fun e w' => e = .returned (.int .u32 (sum l : Nat)) ∧ w = w' := by
  rcases hv.cases with ⟨rfl, ax, capx, rfl, hmx, -⟩ | ⟨b2, off, cap, rfl, hl, hm, hz, hc⟩
  · go_enter Try.func14, Try.ntmps14
    go_wp2
    refine wp_loop_rounds 1 ?_
    rw [rounds_succ]
    go_wp2
    go_ret
    exact ⟨rfl, rfl⟩
  · unfold maxLen at hm
    go_enter Try.func14, Try.ntmps14
    go_wp2
    go_loop [3, 4] (fun n' i => ∃ k : Nat, k ≤ l.length ∧ i = .int .i64 k ∧ n' = .int .u32 (reg 4294967295 (l.take k) : Nat)) (fun _ i => l.length - (intOf i).toNat)
    case atStart => exact ⟨0, by omega, rfl, rfl⟩
    case round =>
      obtain ⟨k, hk, rfl, rfl⟩ := hrel
      have hlt := reg_lt 4294967295 (l.take k) (by omega)
      by_cases h : k < l.length
      · have hck := hc k h
        have hcb : l[k].toNat < 256 := l[k].toNat_lt
        have H2 := Lib.hid (u32_xor_nat (reg 4294967295 (l.take k)) l[k].toNat hlt (by omega))
        have H3 := Lib.hid (reg_take 4294967295 l k h)
        have hxlt := xor_lt32 hlt (show l[k].toNat < 4294967296 by omega)
        have hin : IntKind.u32.wrap (l[k].toNat : Int) = (l[k].toNat : Int) := by rw [IntKind.wrap_u32']; omega
        go_wp2
        go_loop [3, 5] (fun n' i => ∃ j : Nat, j ≤ 8 ∧ i = .int .i64 j ∧ n' = .int .u32 (stps j (reg 4294967295 (l.take k) ^^^ l[k].toNat) : Nat)) (fun _ i => 8 - (intOf i).toNat)
        case atStart => exact ⟨0, by omega, rfl, by rw [H2.out]; rfl⟩
        case round =>
          obtain ⟨j, hj, rfl, rfl⟩ := hrel
          generalize hx : reg 4294967295 (l.take k) ^^^ l[k].toNat = x at *
          have hlt := stps_lt j x hxlt
          have H2 := Lib.hid (u32_xorP (stps j x / 2) (by omega))
          have H4 : Hid (stps (j + 1) x = if stps j x % 2 = 1 then (stps j x / 2) ^^^ 3988292384 else stps j x / 2) := Lib.hid rfl
          have HX := Lib.hid hx
          clear hx
          go_wp2
          · rename_i h1
            go_round
            case rel => exact ⟨j + 1, by omega, by go_num, by rw [H4.out, if_pos (by simp only [beq_iff_eq] at h1; omega)]; rw [show ((stps j x : Nat) : Int) / 2 = ((stps j x / 2 : Nat) : Int) by simp, H2.out]⟩
            case measure => simp [intOf]; omega
          · rename_i h1
            go_round
            case rel => exact ⟨j + 1, by omega, by go_num, by rw [H4.out, if_neg (by simp only [beq_eq_false_iff_ne] at h1; omega)]; simp⟩
            case measure => simp [intOf]; omega
          · obtain rfl : j = 8 := by omega
            go_round
            case rel => exact ⟨k + 1, by omega, by go_num, by rw [H3.out]; unfold upd; rw [HX.out]⟩
            case measure => simp [intOf]; omega
      · obtain rfl : k = l.length := by omega
        have H2 := Lib.hid (u32_sub _ hlt)
        go_wp2
        go_ret
        exact ⟨ret_num (by have h3 := H2.out; rw [IntKind.wrap_u32'] at h3; simpa [sum] using h3), rfl⟩

theorem take_eq_succ {l1 l2 : List UInt8} {k : Nat} (h1 : k < l1.length) (h2 : k < l2.length) (h : l1.take k = l2.take k) (he : l1[k] = l2[k]) : l1.take (k + 1) = l2.take (k + 1) := by
  rw [take_snoc l1 k h1, take_snoc l2 k h2, h, he]

theorem ret_bool {a b : Bool} (h : a = b) : Ending.returned (.bool a) = .returned (.bool b) := by rw [h]

set_option maxHeartbeats 400000 in
theorem Same_any (v1 v2 : Value) (l1 l2 : List UInt8) (w : World) (h1 : BytesAt w v1 l1) (h2 : BytesAt w v2 l2) :
    Calls Try.prog 18 #[v1, v2] w fun e w' => e = .returned (.bool (l1 == l2)) ∧ ∃ n, w' = w.drewN n := by
  obtain ⟨a1, c1, hv1, hl1, hm1, -⟩ := h1.len
  obtain ⟨a2, c2, hv2, hl2, hm2, -⟩ := h2.len
  unfold maxLen at hm1 hm2
  by_cases hne : l1.length = l2.length
  · by_cases h0 : l1.length = 0
    · have e1 : l1 = [] := List.eq_nil_of_length_eq_zero h0
      have e2 : l2 = [] := List.eq_nil_of_length_eq_zero (by omega)
      subst e1 e2 hv1 hv2
      clear hne h0
      go_enter Try.func18, Try.ntmps18
      go_wp2
      refine wp_loop_rounds 1 ?_
      rw [rounds_succ]
      go_wp2
      go_ret
      exact ⟨rfl, 0, rfl⟩
    · rcases h1.cases with ⟨rfl, -⟩ | ⟨b1, o1, c1', rfl, hl1', hm1', hz1, hc1⟩
      · exact absurd rfl h0
      rcases h2.cases with ⟨rfl, -⟩ | ⟨b2, o2, c2', rfl, hl2', hm2', hz2, hc2⟩
      · exact absurd hne h0
      clear hv1 hv2
      unfold maxLen at hm1' hm2'
      have hnb : ((l1.length : Int) != (l2.length : Int)) = false := by simp [hne]
      have hlen : l1.length ≤ l2.length := by omega
      have Hne := Lib.hid hne
      clear hne
      go_enter Try.func18, Try.ntmps18
      go_wp2
      go_loopw [5] (fun i wr => ∃ k : Nat, k ≤ l1.length ∧ i = .int .i64 k ∧ l1.take k = l2.take k ∧ ∃ n, wr = w.drewN n) (fun i _ => l1.length - (intOf i).toNat)
      case atStart => exact ⟨0, by omega, rfl, rfl, 0, rfl⟩
      case round =>
        obtain ⟨k, hk, rfl, ht, n, rfl⟩ := hrel
        have Ht := Lib.hid ht
        clear ht
        by_cases h : k < l1.length
        · have hk1 := hc1 k h
          have hk2 := hc2 k (by omega)
          have hlt2 : k < l2.length := by omega
          go_wp2
          go_quiet (fail)
          by_cases he : l1[k] = l2[k]
          · have he' : ((l1[k].toNat : Int) != (l2[k].toNat : Int)) = false := by simp [he]
            have He := Lib.hid he
            clear he
            go_wp2
            go_roundw
            case rel => exact ⟨k + 1, by omega, by go_num, take_eq_succ h hlt2 Ht.out He.out, _, rfl⟩
            case measure => simp [intOf]; omega
          · have he' : ((l1[k].toNat : Int) != (l2[k].toNat : Int)) = true := by
              simp only [bne_iff_ne, ne_eq]
              intro h3
              exact he (UInt8.toNat_inj.1 (by omega))
            have hfin : (l1 == l2) = false := by
              simp only [beq_eq_false_iff_ne]
              intro h4; subst h4; exact he rfl
            have Hfin := Lib.hid hfin
            clear he hfin
            go_wp2
            go_ret
            exact ⟨ret_bool Hfin.out.symm, _, by first | rfl | exact World.drewN_drewN _ _ _⟩
        · obtain rfl : k = l1.length := by omega
          have hfin : (l1 == l2) = true := by
            have h5 := Ht.out
            rw [List.take_length, Hne.out, List.take_length] at h5
            simp [h5]
          have Hfin := Lib.hid hfin
          clear hfin
          go_wp2
          go_ret
          exact ⟨ret_bool Hfin.out.symm, _, by first | rfl | exact World.drewN_drewN _ _ _⟩
  · have hnb : ((l1.length : Int) != (l2.length : Int)) = true := by simp; omega
    have hfin : (l1 == l2) = false := by
      simp only [beq_eq_false_iff_ne]
      intro h4; subst h4; exact hne rfl
    have Hfin := Lib.hid hfin
    subst hv1 hv2
    clear hne hfin
    go_enter Try.func18, Try.ntmps18
    go_wp2
    go_ret
    exact ⟨ret_bool Hfin.out.symm, 0, rfl⟩
end Go.Proofs.Ytfkpkchnjacfjaa
