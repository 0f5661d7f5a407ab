/- The walks of VarintGets, VarintPuts, VarintCuts, VarintOrder: each returns true. -/
import Derived.Test.YtoccanppfdeggaaVarB
namespace Go.Proofs.Ytoccanppfdeggaa
open Go.RowKit Go.Tab

theorem get_ex : get [128, 0] = (0, 0, 3) := by decide +kernel
theorem put_ex : put 300 = [172, 2] := by decide +kernel

set_option maxHeartbeats 800000 in
set_option maxRecDepth 100000 in
theorem vwakes_any (w : World) : Calls Try.prog 12 #[] w fun e w' => e = .returned (.bool true) ∧ Below w.heap.size w w' := by
  have g := Lib.hid get_ex
  have p := Lib.hid put_ex
  go_enter Try.func12, Try.ntmps12
  go_wp2_with fail
  refine (Get_any _ [128, 0] _ (bytes_new w [128, 0] 5 (0, 0) (by show 2 ≤ maxLen; decide))).mono ?_
  rintro e w1 ⟨rfl, rfl⟩
  have hb1 : Below w.heap.size w (w.alloc (.cells #[.int .u8 128, .int .u8 0] 5)) := (Below.refl _ _).alloc (Nat.le_refl _) _
  rw [g.out]
  unfold getV
  go_wp2_with fail
  refine (Put_any 300 _ (by decide)).mono ?_
  rintro e w2 ⟨v2, rfl, ho2, hb2'⟩
  have hz1 := hb1.size
  have hb2 := hb1.trans (hb2'.mono hz1)
  have hz2 := hb2.size
  have hr2 := ho2.row
  rw [p.out] at hr2
  clear ho2 hb2'
  go_wp2_with fail
  refine (Same_yes _ _ [172, 2] [172, 2] _ (hr2.alloc _) (bytes_new w2 [172, 2] 5 (0, 0) (by show 2 ≤ maxLen; decide)) rfl).mono ?_
  rintro e w3 ⟨rfl, hb3'⟩
  have hb3 : Below w.heap.size w w3 := (hb2.alloc hz2 _).trans (hb3'.mono (by simp; omega))
  go_wp2
  go_ret
  exact ⟨rfl, hb3⟩

set_option maxHeartbeats 800000 in
set_option maxRecDepth 100000 in
theorem VarintGets_walk (a0 : Value) (l0 : List UInt8) (w : World) (w0 : BytesAt w a0 l0) :
    Calls Try.prog 3 #[a0] w fun e w' => e = .returned (.bool true) ∧ Below w.heap.size w w' := by
  have wk := w0
  obtain ⟨a, cap, rfl, hl, hm, hn⟩ := w0.len
  unfold maxLen at hm
  by_cases h : 1000 < l0.length
  · go_enter Try.func3, Try.ntmps3
    go_wp2_with fail
    refine (vwakes_any w).mono ?_
    rintro e w1 ⟨rfl, hb1⟩
    go_wp2
    go_ret
    exact ⟨rfl, hb1⟩
  · obtain ⟨N, s, e, hg⟩ : ∃ N s e, get l0 = (N, s, e) := ⟨_, _, _, rfl⟩
    have HG := Lib.hid hg
    go_enter Try.func3, Try.ntmps3
    go_wp2_with fail
    refine (vwakes_any w).mono ?_
    rintro e1 w1 ⟨rfl, hb1⟩
    have hz1 := hb1.size
    go_wp2_with fail
    refine (Get_any _ l0 w1 (wk.below hb1 (Nat.le_refl _))).mono ?_
    rintro e2 w2 ⟨rfl, rfl⟩
    rw [HG.out]
    unfold getV
    clear hg
    go_wp2_with fail
    refine (rGet_any _ l0 w1 (wk.below hb1 (Nat.le_refl _))).mono ?_
    rintro e2 w2 ⟨rfl, hb2'⟩
    rw [HG.out]
    unfold getA
    have hb2 := hb1.trans (hb2'.mono hz1)
    have hz2 := hb2.size
    clear hb2'
    by_cases he : e = 0
    · subst he
      obtain ⟨hp, hs, hs2, hN⟩ := put_get HG.out
      have HP := Lib.hid hp
      have HN := Lib.hid hN
      clear hp hN hs2
      have hb3 : Below w.heap.size w (w2.alloc (.cells #[.int .u64 N, .int .i64 s, .int .i64 0] 29)).drew := (hb2.alloc hz2 _).drew
      have hz3 := hb3.size
      have hrow := wk.below hb3 (Nat.le_refl _)
      have hrs := hrow.head hs
      have hsc : s ≤ cap := by omega
      clear hrow
      go_wp2_with fail
      go_region_with (first
        | (go_at_call 16; refine (Put_any N _ HN.out).mono ?_; rintro e3 w3 ⟨v3, rfl, ho3, hb4'⟩)
        | (go_at_call 15; refine (Same_yes _ _ _ _ _ ho3.row (hrs.below hb4' (Nat.le_refl _)) HP.out).mono ?_; rintro e4 w4 ⟨rfl, hb5'⟩))
      all_goals
        have hb4 := hb3.trans (hb4'.mono hz3)
        have hb5 := hb4.trans (hb5'.mono hb4.size)
        go_wp2
        go_ret
        exact ⟨rfl, hb5⟩
    · have hne : ((e : Int) != 0) = true := by simp; omega
      have HE := Lib.hid he
      clear he
      go_wp2_with fail
      go_quiet (fail)
      go_wp2
      go_ret
      exact ⟨rfl, (hb2.alloc hz2 _).trans (below_draws _ _ _)⟩

end Go.Proofs.Ytoccanppfdeggaa
