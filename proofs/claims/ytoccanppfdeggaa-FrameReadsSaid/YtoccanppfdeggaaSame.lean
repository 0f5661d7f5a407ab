/- Bytes that a call makes or is handed; the walk of tabulariumref03.Same. -/
import Derived.Test.YtoccanppfdeggaaRows
import Derived.Test.YtoccanppfdeggaaKit
namespace Go.Proofs.Ytoccanppfdeggaa
open Go.RowKit Go.Tab

theorem take_snoc {α : Type} (l : List α) (k : Nat) (h : k < l.length) : l.take (k + 1) = l.take k ++ [l[k]] := by
  rw [List.take_succ_eq_append_getElem h]
theorem ret_num {k : IntKind} {a b : Int} (h : a = b) : Ending.returned (.int k a) = .returned (.int k b) := by rw [h]
/-- A block that a literal of bytes has laid. -/
theorem bytes_new (w : World) (l : List UInt8) (t : TypeId) (f : Nat × Nat) (h : l.length ≤ maxLen) : BytesAt (w.alloc (.cells (l.map fun c => Value.int .u8 c.toNat).toArray t f)) (.slice (some ⟨w.heap.size, 0, none⟩) l.length l.length) l := by
  refine ⟨_, l.length, rfl, Nat.le_refl _, h, (fun h => by cases h), fun x hx _ => ?_⟩
  cases hx
  refine ⟨rfl, by simp, fun j hj => ?_⟩
  rw [World.cell?_alloc_mark]
  simp [hj]

theorem take_eq_succ {l1 l2 : List UInt8} {k : Nat} (h1 : k < l1.length) (h2 : k < l2.length) (h : l1.take k = l2.take k) (he : l1[k] = l2[k]) : l1.take (k + 1) = l2.take (k + 1) := by
  rw [take_snoc l1 k h1, take_snoc l2 k h2, h, he]

theorem ret_bool {a b : Bool} (h : a = b) : Ending.returned (.bool a) = .returned (.bool b) := by rw [h]

set_option maxHeartbeats 400000 in
theorem Same_any (v1 v2 : Value) (l1 l2 : List UInt8) (w : World) (h1 : BytesAt w v1 l1) (h2 : BytesAt w v2 l2) :
    Calls Try.prog 15 #[v1, v2] w fun e w' => e = .returned (.bool (l1 == l2)) ∧ ∃ n, w' = w.drewN n := by
  obtain ⟨a1, c1, hv1, hl1, hm1, -⟩ := h1.len
  obtain ⟨a2, c2, hv2, hl2, hm2, -⟩ := h2.len
  unfold maxLen at hm1 hm2
  by_cases hne : l1.length = l2.length
  · by_cases h0 : l1.length = 0
    · have e1 : l1 = [] := List.eq_nil_of_length_eq_zero h0
      have e2 : l2 = [] := List.eq_nil_of_length_eq_zero (by omega)
      subst e1 e2 hv1 hv2
      clear hne h0
      go_enter Try.func15, Try.ntmps15
      go_wp2
      refine wp_loop_rounds 1 ?_
      rw [rounds_succ]
      go_wp2
      go_ret
      exact ⟨rfl, 0, rfl⟩
    · rcases h1.cases with ⟨rfl, -⟩ | ⟨b1, o1, c1', rfl, hl1', hm1', hz1, hc1⟩
      · exact absurd rfl h0
      rcases h2.cases with ⟨rfl, -⟩ | ⟨b2, o2, c2', rfl, hl2', hm2', hz2, hc2⟩
      · exact absurd hne h0
      clear hv1 hv2
      unfold maxLen at hm1' hm2'
      have hnb : ((l1.length : Int) != (l2.length : Int)) = false := by simp [hne]
      have hlen : l1.length ≤ l2.length := by omega
      have Hne := Lib.hid hne
      clear hne
      go_enter Try.func15, Try.ntmps15
      go_wp2
      go_loopw [5] (fun i wr => ∃ k : Nat, k ≤ l1.length ∧ i = .int .i64 k ∧ l1.take k = l2.take k ∧ ∃ n, wr = w.drewN n) (fun i _ => l1.length - (intOf i).toNat)
      case atStart => exact ⟨0, by omega, rfl, rfl, 0, rfl⟩
      case round =>
        obtain ⟨k, hk, rfl, ht, n, rfl⟩ := hrel
        have Ht := Lib.hid ht
        clear ht
        by_cases h : k < l1.length
        · have hk1 := hc1 k h
          have hk2 := hc2 k (by omega)
          have hlt2 : k < l2.length := by omega
          go_wp2
          go_quiet (fail)
          by_cases he : l1[k] = l2[k]
          · have he' : ((l1[k].toNat : Int) != (l2[k].toNat : Int)) = false := by simp [he]
            have He := Lib.hid he
            clear he
            go_wp2
            go_roundw
            case rel => exact ⟨k + 1, by omega, by go_num, take_eq_succ h hlt2 Ht.out He.out, _, rfl⟩
            case measure => simp [intOf]; omega
          · have he' : ((l1[k].toNat : Int) != (l2[k].toNat : Int)) = true := by
              simp only [bne_iff_ne, ne_eq]
              intro h3
              exact he (UInt8.toNat_inj.1 (by omega))
            have hfin : (l1 == l2) = false := by
              simp only [beq_eq_false_iff_ne]
              intro h4; subst h4; exact he rfl
            have Hfin := Lib.hid hfin
            clear he hfin
            go_wp2
            go_ret
            exact ⟨ret_bool Hfin.out.symm, _, by first | rfl | exact World.drewN_drewN _ _ _⟩
        · obtain rfl : k = l1.length := by omega
          have hfin : (l1 == l2) = true := by
            have h5 := Ht.out
            rw [List.take_length, Hne.out, List.take_length] at h5
            simp [h5]
          have Hfin := Lib.hid hfin
          clear hfin
          go_wp2
          go_ret
          exact ⟨ret_bool Hfin.out.symm, _, by first | rfl | exact World.drewN_drewN _ _ _⟩
  · have hnb : ((l1.length : Int) != (l2.length : Int)) = true := by simp; omega
    have hfin : (l1 == l2) = false := by
      simp only [beq_eq_false_iff_ne]
      intro h4; subst h4; exact hne rfl
    have Hfin := Lib.hid hfin
    subst hv1 hv2
    clear hne hfin
    go_enter Try.func15, Try.ntmps15
    go_wp2
    go_ret
    exact ⟨ret_bool Hfin.out.symm, 0, rfl⟩
theorem Try.infoB : (Try.prog.info? 5).map (fun i => (i.zero, i.size, i.bytes)) = some (some (.int .u8 0), 1, 1) := by kernel_rfl
theorem Try.sizeB : (Try.prog.info? (Try.prog.elem 22)).map (fun i => i.size) = some 1 := by kernel_rfl
theorem Try.undB : Try.prog.underlying 22 = some (.slice (Try.prog.elem 22)) := by kernel_rfl
theorem oneB : ∀ x : UInt8, (byteV x).oneCell' = true := fun _ => rfl

abbrev OwnB := OwnOf byteV 5

theorem Same_yes (v1 v2 : Value) (l1 l2 : List UInt8) (w : World) (h1 : BytesAt w v1 l1) (h2 : BytesAt w v2 l2) (h : l1 = l2) :
    Calls Try.prog 15 #[v1, v2] w fun e w' => e = .returned (.bool true) ∧ Below w.heap.size w w' :=
  (Same_any v1 v2 l1 l2 w h1 h2).mono fun e w' ⟨he, n, hw⟩ => ⟨by rw [he]; simp [h], by rw [hw]; exact below_draws _ _ _⟩

theorem Same_no (v1 v2 : Value) (l1 l2 : List UInt8) (w : World) (h1 : BytesAt w v1 l1) (h2 : BytesAt w v2 l2) (h : l1 ≠ l2) :
    Calls Try.prog 15 #[v1, v2] w fun e w' => e = .returned (.bool false) ∧ Below w.heap.size w w' :=
  (Same_any v1 v2 l1 l2 w h1 h2).mono fun e w' ⟨he, n, hw⟩ => ⟨by rw [he]; simp [h], by rw [hw]; exact below_draws _ _ _⟩
end Go.Proofs.Ytoccanppfdeggaa
