/- The iterator utf.All (layer 2). -/
import Derived.Test.YtgkgdmpbcneoiaaDoorUtfI
import Derived.RangeFuncNested
import Derived.RangeFuncBound
import Derived.RangeFuncBox
import Derived.RangeFuncCalls
import Derived.RangeFuncLeaves
import Derived.Shelf.Abstract
import Derived.Shelf.RegionOpen
import Derived.WalkKit
import Derived.OwnWalkIn
import Derived.TacticsInMore
import Derived.LoopNIn
import Derived.LoopIn
import Derived.Maps.AppendAt
namespace Go.Proofs.YtgkgdmpbcneoiaaDoor
open Go.RowKit Go.Tab Go.Shelf
attribute [local go_sem] Oper.semAt_some

set_option maxHeartbeats 800000 in
set_option maxRecDepth 100000 in
theorem uAll_any (s : ByteArray) (w : World) :
    Calls Tryd.prog 35 #[.string s] w fun e w' => e = .returned (.func (.func 43) #[] #[.pointer (some ⟨w.heap.size, 0, none⟩)]) ∧ w' = w.alloc (.cells #[.string s] 9) := by
  go_enter Tryd.func35, Tryd.ntmps35
  go_wp2
  go_ret
  exact ⟨rfl, rfl⟩

/-- The table's block and the text's box lie as they lay. -/
def TwoKept (g : Nat) (A B : World) : Prop := A.heap.size ≤ B.heap.size ∧ B.heap[0]? = A.heap[0]? ∧ B.heap[g]? = A.heap[g]?
theorem TwoKept.refl (g : Nat) (A : World) : TwoKept g A A := ⟨Nat.le_refl _, rfl, rfl⟩
theorem TwoKept.trans {g : Nat} {A B C : World} (h : TwoKept g A B) (h2 : TwoKept g B C) : TwoKept g A C := ⟨Nat.le_trans h.1 h2.1, h2.2.1.trans h.2.1, h2.2.2.trans h.2.2⟩
theorem TwoKept.tab {g : Nat} {A B : World} (h : TwoKept g A B) (hT : Tab A) : Tab B := fun j hj => (World.cell?_of_block h.2.1).trans (hT j hj)
theorem TwoKept.box {g : Nat} {A B : World} (h : TwoKept g A B) {v : Value} (hc : A.cell? ⟨g, 0, none⟩ = some v) : B.cell? ⟨g, 0, none⟩ = some v := (World.cell?_of_block h.2.2).trans hc

set_option maxHeartbeats 800000 in
set_option maxRecDepth 100000 in
theorem uAll1_in (n : Nat) (hn : 2 ≤ n) (l0 Bn : Nat) (s : ByteArray) (hs : s.size ≤ 1000000) (J Jx : List (Nat × Nat) → World → Prop)
    (hY : ∀ pre x W, J pre W → pre.length < (scan (bs s) 0).1.length → YieldAt Fence.wide (n - 1) Tryd.prog l0 #[.int .i64 (x.1 : Nat), .int .i64 (x.2 : Nat)] W fun e W' =>
      (e = .returned (.bool true) ∧ J (pre ++ [x]) W' ∧ TwoKept Bn W W') ∨ (e = .returned (.bool false) ∧ Jx (pre ++ [x]) W'))
    (W : World) (hBn : W.cell? ⟨Bn, 0, none⟩ = some (.string s)) (hT : Tab W) (h0 : J [] W) :
    CallsIn Fence.wide n Tryd.prog 43 #[.func (.yield l0) #[] #[], .pointer (some ⟨Bn, 0, none⟩)] W fun e W' => (∃ v, e = .returned v) ∧
      ((∃ ys, ys = (scan (bs s) 0).1 ∧ J ys W') ∨ (∃ pre, pre <+: (scan (bs s) 0).1 ∧ Jx pre W')) := by
  refine callsIn_of_wp Tryd.func43 rfl trivial ?_ rfl
  simp only [Tryd.ntmps43, List.size_toArray, List.length_cons, List.length_nil, Nat.reduceAdd, Nat.reduceSub, Array.replicate_succ, Array.replicate_zero, List.push_toArray, List.append_toArray, List.nil_append, List.cons_append]
  gi_wp2
  gi_loopw [3] (fun i wr => ∃ (k : Nat) (pre : List (Nat × Nat)), i = .int .i64 k ∧ k ≤ s.size ∧ Rest (bs s) k pre ∧ J pre wr ∧ TwoKept Bn W wr)
    (fun i wr => s.size - (intOf i).toNat)
  case atStart => exact ⟨0, [], rfl, Nat.zero_le _, Rest.zero _, h0, TwoKept.refl _ _⟩
  case round =>
    obtain ⟨k, pre, rfl, hk, hr, hJ, hb⟩ := hrel
    have HR := Lib.hid hr
    have hbx := hb.box hBn
    have hTr := hb.tab hT
    clear hr
    by_cases h : k < s.size
    · obtain ⟨c, m, h1⟩ : ∃ c m, oneN ((bs s).drop k) = (c, m) := ⟨_, _, rfl⟩
      have hle := (oneN_le ((bs s).drop k) (fun x hx => bs_lt x (List.mem_of_mem_drop hx))).1
      have hF := first_any s k wr hTr hs
      unfold firstPost at hF
      rw [h1] at hF hle
      simp only [List.length_drop, bs_length] at hle
      have H1 := Lib.hid h1
      have HF := Lib.hid hF
      clear h1 hF
      by_cases hm : m = 0
      · subst hm
        have h2 := Lib.hid (HR.out.bad (by rw [bs_length]; exact h) (by rw [H1.out]))
        clear hY
        gi_wp2
        refine ⟨trivial, fun _ => by omega, ?_⟩
        refine (callsIn_wide.2 HF.out).mono ?_
        rintro e w9 ⟨rfl, rfl⟩
        clear HF
        gi_wp2
        refine ⟨fun _ h => (by cases h), ?_⟩
        gi_wp2
        refine bodyPost_ret (results_none rfl _ _ _) rfl ?_
        exact ⟨⟨_, rfl⟩, .inl ⟨pre, by rw [h2.out], hJ⟩⟩
      · have h2 := Lib.hid (HR.out.good (by rw [bs_length]; exact h) H1.out hm)
        have hbn : ((m : Int) == 0) = false := by rw [beq_eq_false_iff_ne]; omega
        have hm1 : 1 ≤ m := by omega
        have hlt : pre.length < (scan (bs s) 0).1.length := by rw [h2.out]; simp
        obtain ⟨fn, tmps, assign, body, hy, hR⟩ := hY pre (k, c) wr hJ hlt
        have hpre : Hid (pre ++ [(k, c)] <+: (scan (bs s) 0).1) := Lib.hid ⟨(scan ((bs s).drop (k + m)) (k + m)).1, by rw [h2.out]⟩
        clear hm hY
        gi_wp2
        refine ⟨trivial, fun _ => by omega, ?_⟩
        refine (callsIn_wide.2 HF.out).mono ?_
        rintro e w9 ⟨rfl, rfl⟩
        clear HF
        gi_wp2
        refine ⟨fun _ => by omega, hR.mono ?_⟩
        rintro e W3 (⟨rfl, hJ3, hk3⟩ | ⟨rfl, hJx3⟩)
        · gi_wp2
          refine ⟨⟨k + m, pre ++ [(k, c)], by go_num, by omega, h2.out, hJ3, hb.trans hk3⟩, ?_⟩
          simp [intOf]; omega
        · gi_wp2
          refine bodyPost_ret (results_none rfl _ _ _) rfl ?_
          exact ⟨⟨_, rfl⟩, .inr ⟨_, hpre.out, hJx3⟩⟩
    · have h2 := Lib.hid (HR.out.done (by rw [bs_length]; omega))
      clear hY
      gi_wp2
      refine bodyPost_end (results_none rfl _ _ _) rfl ?_
      exact ⟨⟨_, rfl⟩, .inl ⟨pre, by rw [h2.out], hJ⟩⟩
end Go.Proofs.YtgkgdmpbcneoiaaDoor
