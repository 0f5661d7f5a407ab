/- The walks of the reader's next and Frame (layer 5). -/
import Derived.Test.YtoccanppfdeggaaFrA
import Derived.Test.YtoccanppfdeggaaFrP
namespace Go.Proofs.Ytoccanppfdeggaa
open Go.RowKit Go.Tab

theorem drop_take_swap (l : List UInt8) (s n : Nat) : (l.take (s + n)).drop s = (l.drop s).take n := by
  rw [List.drop_take]; congr 1; omega

theorem RdAt.frozen {w : World} {g : Nat} {b : Option Nat} {l : List UInt8} {e : Nat} (h : RdAt w g b l e) (j : Nat) : w.frozen? ⟨g, j, none⟩ = false := by
  obtain ⟨v, hc, _⟩ := h
  exact hc.frozen j
theorem RdAt.lt {w : World} {g : Nat} {b : Option Nat} {l : List UInt8} {e : Nat} (h : RdAt w g b l e) : g < w.heap.size := by
  obtain ⟨v, hc, _⟩ := h
  exact hc.lt
theorem RdAt.kept {w w' : World} {g : Nat} {b : Option Nat} {l : List UInt8} {e : Nat} {row : Option Nat} (h : RdAt w g b l e) (hg : w.grownBy w' row) (hr : ∀ k, row = some k → k ≠ g ∧ b ≠ some k) : RdAt w' g b l e := by
  obtain ⟨v, hc, hv, rfl, hne⟩ := h
  refine ⟨v, hc.kept hg ?_, hv.grown hg ?_, rfl, hne⟩
  · intro h; exact (hr g h.symm).1 rfl
  · cases row with
    | none => cases hb : v.ownBlock with
      | none => exact .inl rfl
      | some k => exact .inr (by simp)
    | some k => exact .inr (hr k rfl).2
theorem RdAt.alloc {w : World} {g : Nat} {b : Option Nat} {l : List UInt8} {e : Nat} (h : RdAt w g b l e) (o : Obj) : RdAt (w.alloc o) g b l e :=
  h.kept (World.grownBy_alloc w o none) (fun k hk => by cases hk)
theorem RdAt.below {w w' : World} {g : Nat} {b : Option Nat} {l : List UInt8} {e : Nat} (h : RdAt w g b l e) (hb : Below w.heap.size w w') : RdAt w' g b l e := by
  obtain ⟨v, hc, hv, rfl, hne⟩ := h
  exact ⟨v, (hb.block _ hc.lt).trans hc, hv.below hb (Nat.le_refl _), rfl, hne⟩
/-- The error is set. -/
theorem RdAt.setE {w : World} {g : Nat} {b : Option Nat} {l : List UInt8} {e : Nat} (h : RdAt w g b l e) (x : Nat) : RdAt (w.setCell ⟨g, 1, none⟩ (.int .i64 x)) g b l x := by
  obtain ⟨v, hc, hv, rfl, hne⟩ := h
  refine ⟨v, hc.set 1 Nat.one_lt_two _, hv.grown (grownBy_setAt _ _ _ _) (.inr hne), rfl, hne⟩

set_option maxHeartbeats 800000 in
set_option maxRecDepth 100000 in
theorem next_any (g : Nat) (b : Option Nat) (l : List UInt8) (e s n : Nat) (w : World) (h : RdAt w g b l e) (hsn : s + n ≤ l.length) (hlen : l.length ≤ 1000000) :
    Calls Try.prog 43 #[.pointer (some ⟨g, 0, none⟩), .int .i64 s, .int .i64 n] w fun x w' => ∃ out, x = .returned out ∧ OwnB w.heap.size w' out ((l.drop s).take n) ∧ RdAt w' g b (l.drop (s + n)) e ∧ w.grownBy w' (some g) := by
  obtain ⟨v, hc, hv, rfl, hne⟩ := h
  have h0 := hc.cell 0 _ rfl
  go_enter Try.func43, Try.ntmps43
  go_wp2_with (with_reducible first | refine stop_append ?_ | refine stop_make ?_ | refine stop_slice ?_ | refine stop_copy ?_); refine Stop.out ?_
  refine wpList_slice_lh rfl _ _ _ 22 rfl Try.undB Try.sizeB l (by exact hv) .i64 .i64 _ _ s (s + n) rfl rfl rfl (by omega) (by omega) hsn ?_
  intro v1 hv1 _
  go_wp2_with (with_reducible first | refine stop_append ?_ | refine stop_make ?_ | refine stop_slice ?_ | refine stop_copy ?_); refine Stop.out ?_
  refine wpList_append_row (f := byteV) rfl _ _ 22 rfl w.heap.size 5 1 _ Try.underlying22 Try.infoB rfl oneB [] ((l.take (s + n)).drop s) (by exact OwnOf.nil) (by exact hv1) (by unfold maxLen; simp; omega) (by simp; omega) (Nat.le_refl _) w (Below.refl _ _) ?_
  intro v2 w2 ho2 hb2 hg2
  have hc2 := hc.kept hg2 (by simp [Value.ownBlock, go_sem])
  have hv2 : BytesAt w2 v l := hv.below hb2 (Nat.le_refl _)
  have h02 := hc2.cell 0 _ rfl
  go_wp2_with (with_reducible first | refine stop_append ?_ | refine stop_make ?_ | refine stop_slice ?_ | refine stop_copy ?_); refine Stop.out ?_
  refine wpList_slice_l rfl _ _ 22 rfl Try.undB Try.sizeB l (by exact hv2) .i64 _ (s + n) rfl (by omega) hsn ?_
  intro v3 hv3 ho3
  obtain ⟨a3, n3, cap3, rfl, -⟩ := hv3.shape
  have hf2 := hc2.frozen 0
  go_wp2
  go_ret
  rw [drop_take_swap] at ho2
  have hgs := grownBy_setAt w2 g 0 (.slice a3 n3 cap3)
  have hlt := hc.lt
  refine ⟨v2, rfl, ?_, ⟨_, hc2.set 0 Nat.zero_lt_two _, hv3.grown hgs (.inr ?_), ?_, hne⟩, ?_⟩
  · refine OwnOf.kept (by simpa using ho2) hgs (.inr ?_)
    intro h
    have := World.ownsRow.lt ho2 _ h
    omega
  · rw [ho3]; exact hne
  · rw [ho3]; rfl
  · obtain ⟨g1, g2, g3, g4, g5⟩ := hg2
    obtain ⟨k1, k2, k3, k4, k5⟩ := hgs
    exact ⟨k1.trans g1, k2.trans g2, k3.trans g3, Nat.le_trans g4 k4, fun k hk hr => (k5 k (Nat.lt_of_lt_of_le hk g4) hr).trans (g5 k hk (by simp [Value.ownBlock, go_sem]))⟩

theorem ownB_nil (w : World) : OwnB w.heap.size w (.slice none 0 0) [] := OwnOf.nil

set_option maxHeartbeats 800000 in
set_option maxRecDepth 100000 in
theorem RFrame_any (g : Nat) (b : Option Nat) (l : List UInt8) (e : Nat) (most : Int) (w : World) (h : RdAt w g b l e) (hlen : l.length ≤ 1000000) (hmost : most ≤ 9223372036854775807) :
    Calls Try.prog 35 #[.pointer (some ⟨g, 0, none⟩), .int .i64 most] w fun x w' => ∃ out, x = .returned out ∧ OwnB w.heap.size w' out (rdFrame most l e).1 ∧ RdAt w' g b (rdFrame most l e).2.1 (rdFrame most l e).2.2 ∧ w.grownBy w' (some g) := by
  have hk := h
  obtain ⟨v, hc, hv, rfl, hne⟩ := h
  have h0 := hc.cell 0 _ rfl
  have h1 := hc.cell 1 _ rfl
  by_cases he : e = 0
  · subst he
    obtain ⟨N, s, x, hg⟩ : ∃ N s x, get l = (N, s, x) := ⟨_, _, _, rfl⟩
    have HG := Lib.hid hg
    by_cases hx : x = 0
    · subst hx
      obtain ⟨g1, g2, g3, g4⟩ := put_get hg
      have H4 := Lib.hid g4
      clear g1 g3 g4
      obtain ⟨M, hM⟩ : ∃ M : Nat, max most 0 = (M : Int) := ⟨(max most 0).toNat, by omega⟩
      have hM2 : M ≤ 9223372036854775807 := by omega
      by_cases hbig : M < N
      · have hr : rdFrame most l 0 = ([], l, 4) := by unfold rdFrame; rw [hg, hM]; simp [hbig]
        have HR := Lib.hid hr
        have hf := hc.frozen 1
        clear hg hr
        go_enter Try.func35, Try.ntmps35
        go_wp2_with fail
        refine (Get_any _ l w hv).mono ?_
        rintro e2 w2 ⟨rfl, rfl⟩
        rw [HG.out]
        unfold getV
        go_wp2
        all_goals
          go_ret
          rw [HR.out]
          exact ⟨_, rfl, OwnOf.nil, hk.setE _, grownBy_setAt _ _ _ _⟩
      · by_cases hsh : l.length - s < N
        · have hr : rdFrame most l 0 = ([], l, 2) := by unfold rdFrame; rw [hg, hM]; simp [hbig, hsh]
          have HR := Lib.hid hr
          have hf := hc.frozen 1
          have hm0 : 0 ≤ most := by omega
          have hNM : (N : Int) ≤ most := by omega
          have hsh2 : (l.length : Int) - s < N := by omega
          clear hg hr hM2 hM hbig hsh
          go_enter Try.func35, Try.ntmps35
          go_wp2_with fail
          refine (Get_any _ l w hv).mono ?_
          rintro e2 w2 ⟨rfl, rfl⟩
          rw [HG.out]
          unfold getV
          go_wp2_with fail
          refine (Left_any g _ l 0 w hk).mono ?_
          rintro e2 w2 ⟨rfl, rfl⟩
          go_wp2
          go_ret
          rw [HR.out]
          exact ⟨_, rfl, OwnOf.nil, hk.setE _, grownBy_setAt _ _ _ _⟩
        · have hr : rdFrame most l 0 = ((l.drop s).take N, l.drop (s + N), 0) := by unfold rdFrame; rw [hg, hM]; simp [hbig, hsh]
          have HR := Lib.hid hr
          have hsn : s + N ≤ l.length := by omega
          have hmm : most < 0 ∧ N = 0 ∨ 0 ≤ most ∧ (N : Int) ≤ most := by omega
          clear hg hr hM2 hM hbig hsh
          rcases hmm with ⟨hm0, rfl⟩ | ⟨hm0, hNM⟩
          all_goals
            go_enter Try.func35, Try.ntmps35
            go_wp2_with fail
            refine (Get_any _ l w hv).mono ?_
            rintro e2 w2 ⟨rfl, rfl⟩
            rw [HG.out]
            unfold getV
            go_wp2_with fail
            refine (Left_any g _ l 0 w hk).mono ?_
            rintro e2 w2 ⟨rfl, rfl⟩
            go_wp2_with fail
            refine (next_any g _ l 0 s _ w hk hsn hlen).mono ?_
            rintro e2 w2 ⟨out, rfl, ho2, hk2, hg2⟩
            go_wp2
            go_ret
            rw [HR.out]
            exact ⟨_, rfl, ho2, hk2, hg2⟩
    · have hbx : ((x : Int) != 0) = true := by simp; omega
      have hr : rdFrame most l 0 = ([], l, x) := by unfold rdFrame; rw [hg]; simp [hx]
      have HR := Lib.hid hr
      have hf := hc.frozen 1
      clear hx hg hr
      go_enter Try.func35, Try.ntmps35
      go_wp2_with fail
      refine (Get_any _ l w hv).mono ?_
      rintro e2 w2 ⟨rfl, rfl⟩
      rw [HG.out]
      unfold getV
      go_wp2
      go_ret
      rw [HR.out]
      exact ⟨_, rfl, OwnOf.nil, hk.setE _, grownBy_setAt _ _ _ _⟩
  · have hbx : ((e : Int) != 0) = true := by simp; omega
    have hr : rdFrame most l e = ([], l, e) := by unfold rdFrame; simp [he]
    have HR := Lib.hid hr
    clear hr he
    go_enter Try.func35, Try.ntmps35
    go_wp2
    go_ret
    rw [HR.out]
    exact ⟨_, rfl, OwnOf.nil, hk, World.grownBy.refl _ _⟩
end Go.Proofs.Ytoccanppfdeggaa
