/- The walk of VarintPuts: it returns true. -/
import Derived.Test.YtoccanppfdeggaaVarC
namespace Go.Proofs.Ytoccanppfdeggaa
open Go.RowKit Go.Tab

set_option maxHeartbeats 800000 in
set_option maxRecDepth 100000 in
theorem VarintPuts_walk (a0 : Int) (a1 : Value) (l1 : List UInt8) (w : World) (w0 : (Lit.int .u64 a0).wf = true) (w1 : BytesAt w a1 l1) :
    Calls Try.prog 6 #[.int .u64 a0, a1] w fun e w' => e = .returned (.bool true) ∧ Below w.heap.size w w' := by
  have wk := w1
  obtain ⟨a, cap, rfl, hl, hm, hn⟩ := w1.len
  unfold maxLen at hm
  obtain ⟨n, rfl, hn⟩ : ∃ n : Nat, a0 = (n : Int) ∧ n < 18446744073709551616 := by
    rw [Lit.wf, Bool.and_eq_true, decide_eq_true_eq, decide_eq_true_eq] at w0
    have e1 : IntKind.u64.min = 0 := rfl
    have e2 : IntKind.u64.max = 18446744073709551615 := rfl
    exact ⟨a0.toNat, by omega, by omega⟩
  have HN := Lib.hid hn
  have h10 := put_length_ten hn
  clear hn w0
  by_cases h : 100 < l1.length
  · go_enter Try.func6, Try.ntmps6
    go_wp2_with fail
    refine (vwakes_any w).mono ?_
    rintro e w1 ⟨rfl, hb1⟩
    go_wp2
    go_ret
    exact ⟨rfl, hb1⟩
  · go_enter Try.func6, Try.ntmps6
    go_wp2_with fail
    refine (vwakes_any w).mono ?_
    rintro e w1 ⟨rfl, hb1⟩
    have hz1 := hb1.size
    go_wp2_with fail
    refine (Put_any n _ HN.out).mono ?_
    rintro e w2 ⟨v2, rfl, ho2, hb2'⟩
    have hr2 := ho2.row
    obtain ⟨g, c2, rfl, hl2, hm2, hg2⟩ := ho2.shape (put_ne n)
    clear ho2
    unfold maxLen at hm2
    have hb2 := hb1.trans (hb2'.mono hz1)
    have hz2 := hb2.size
    clear hb2'
    have hgp := Lib.hid (get_put HN.out l1)
    go_wp2_with (with_reducible first | refine stop_append ?_ | refine stop_make ?_ | refine stop_slice ?_ | refine stop_copy ?_); refine Stop.out ?_
    refine wpList_append_row (f := byteV) rfl _ _ 22 rfl w2.heap.size 5 1 _ Try.underlying22 Try.infoB rfl oneB [] (put n) (by exact OwnOf.lit [] (Nat.le_refl _) (by decide)) (by exact hr2.alloc _) (by unfold maxLen; simp; omega) (by simp; omega) (by simp) w2 (by exact (Below.refl _ _).alloc (Nat.le_refl _) _) ?_
    intro v3 w3 ho3 hb3' _
    have hz32 := hb3'.size
    have hb32 := hb3'
    have hr20 := hr2
    have hb3 := hb2.trans (hb3'.mono hz2)
    have hz3 := hb3.size
    have hr2 := hr2.below hb3' (Nat.le_refl _)
    clear hb3'
    have hr1 := wk.below hb3 (Nat.le_refl _)
    go_wp2_with (with_reducible first | refine stop_append ?_ | refine stop_make ?_ | refine stop_slice ?_ | refine stop_copy ?_); refine Stop.out ?_
    refine wpList_append_row (f := byteV) rfl _ _ 22 rfl w2.heap.size 5 1 _ Try.underlying22 Try.infoB rfl oneB _ l1 (by exact ho3) (by exact hr1) (by unfold maxLen; simp; omega) (by simp; omega) (by omega) w2 (by exact hb32) ?_
    intro v4 w4 ho4 hb4' _
    have hr4 := ho4.row
    simp only [List.nil_append] at hr4
    have hr2 := hr20.below hb4' (Nat.le_refl _)
    have hb4 := hb2.trans (hb4'.mono hz2)
    have hz4 := hb4.size
    clear ho3 ho4 hb4' hb32
    go_wp2_with fail
    refine (Get_any v4 _ w4 hr4).mono ?_
    rintro e w5 ⟨rfl, rfl⟩
    rw [hgp.out]
    unfold getV
    go_wp2_with fail
    refine (rPut_any n w4 HN.out).mono ?_
    rintro e w5 ⟨v5, rfl, ho5, hb5'⟩
    have hr5 := ho5.row
    clear ho5
    have hb5 := hb4.trans (hb5'.mono hz4)
    have hz5 := hb5.size
    have hr2 := hr2.below hb5' (Nat.le_refl _)
    clear hb5'
    go_wp2_with fail
    refine (Same_yes _ _ _ _ w5 hr2 hr5 rfl).mono ?_
    rintro e w6 ⟨rfl, hb6'⟩
    have hb6 := hb5.trans (hb6'.mono hz5)
    have hz6 := hb6.size
    clear hb6'
    go_wp2_with fail
    refine (Size_any n w6 HN.out).mono ?_
    rintro e w7 ⟨rfl, rfl⟩
    go_wp2
    go_ret
    exact ⟨rfl, hb6⟩
end Go.Proofs.Ytoccanppfdeggaa
