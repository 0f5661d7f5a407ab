/- The iterator varint.All and its caller told. Begun after the worked proofs GgSlicesIterAtTheDump and GgPosAtTheDump. -/
import Derived.Test.YtoccanppfdeggaaVarI
import Derived.RangeFuncNested
import Derived.RangeFuncBound
import Derived.RangeFuncBox
import Derived.RangeFuncCalls
import Derived.RangeFuncLeaves
import Derived.Shelf.Abstract
import Derived.Shelf.RegionOpen
import Derived.WalkKit
import Derived.OwnWalkIn
import Derived.TacticsInMore
import Derived.LoopNIn
import Derived.LoopIn
import Derived.Maps.AppendAt
namespace Go.Proofs.Ytoccanppfdeggaa
open Go.RowKit Go.Tab Go.Shelf
attribute [local go_sem] Oper.semAt_some

theorem vAll_any (v : Value) (l : List UInt8) (w : World) (hv : BytesAt w v l) (hl : l.length ≤ 1000) :
    Calls Try.prog 41 #[v] w fun e w' => ∃ B v', e = .returned (.func (.func 44) #[] #[.pointer (some ⟨B, 0, none⟩)]) ∧ w'.cell? ⟨B, 0, none⟩ = some v' ∧ B < w'.heap.size ∧ BytesAt w' v' l ∧ (∀ k, v'.ownBlock = some k → w.heap.size ≤ k ∧ k < B) ∧ Below w.heap.size w w' := by
  have hvk := hv
  obtain ⟨a, cap, rfl, h1, h2, -⟩ := hv.len
  unfold maxLen at h2
  go_enter Try.func41, Try.ntmps41
  go_wp2_with (with_reducible first | refine stop_append ?_ | refine stop_make ?_ | refine stop_slice ?_ | refine stop_copy ?_); refine Stop.out ?_
  refine wpList_append_row (f := byteV) rfl _ _ 22 rfl w.heap.size 5 1 _ Try.underlying22 Try.infoB rfl oneB [] l (by exact OwnOf.nil) (by exact hvk) (by unfold maxLen; simp; omega) (by simp; omega) (by simp) w (by exact Below.refl _ _) ?_
  intro v5 w5 ho5 hb5 _
  have hz5 := hb5.size
  have hr5 := ho5.row
  rw [List.nil_append] at hr5
  obtain ⟨a5, c5, he5, -, -, -⟩ := hr5.len
  subst he5
  have hlt5 := World.ownsRow.lt ho5
  clear ho5
  go_wp2_with fail
  go_ret
  exact ⟨w5.heap.size, .slice a5 l.length c5, rfl, by simp, by simp, hr5.alloc _, hlt5, hb5.alloc hz5 _⟩

/-- The row's block lies as it lay. -/
def RowKept (v : Value) (A B : World) : Prop := A.heap.size ≤ B.heap.size ∧ ∀ k, v.ownBlock = some k → B.heap[k]? = A.heap[k]?
theorem RowKept.refl (v : Value) (A : World) : RowKept v A A := ⟨Nat.le_refl _, fun _ _ => rfl⟩
theorem RowKept.trans {v : Value} {A B C : World} (h : RowKept v A B) (h2 : RowKept v B C) : RowKept v A C := ⟨Nat.le_trans h.1 h2.1, fun k hk => (h2.2 k hk).trans (h.2 k hk)⟩
theorem RowKept.row {v p : Value} {A B : World} (h : RowKept v A B) {l : List UInt8} (hr : BytesAt A p l) (hp : ∀ k, p.ownBlock = some k → v.ownBlock = some k) : BytesAt B p l :=
  hr.moved h.1 fun b off _ hb => World.cell?_of_block (h.2 b (hp b hb))

def lenOf : Value → Nat
  | .slice _ n _ => n
  | _ => 0

set_option maxHeartbeats 800000 in
set_option maxRecDepth 100000 in
theorem vAll1_in (n : Nat) (hn : 2 ≤ n) (l0 Bn : Nat) (v : Value) (l : List UInt8) (hl : l.length ≤ 1000) (J Jx : List Nat → World → Prop)
    (hY : ∀ pre x W, J pre W → pre.length < (nums l).length → YieldAt Fence.wide (n - 1) Try.prog l0 #[.int .u64 (x : Nat)] W fun e W' =>
      (e = .returned (.bool true) ∧ J (pre ++ [x]) W' ∧ RowKept v W W') ∨ (e = .returned (.bool false) ∧ Jx (pre ++ [x]) W'))
    (W : World) (hBn : W.cell? ⟨Bn, 0, none⟩ = some v) (hv : BytesAt W v l) (h0 : J [] W) :
    CallsIn Fence.wide n Try.prog 44 #[.func (.yield l0) #[] #[], .pointer (some ⟨Bn, 0, none⟩)] W fun e W' => (∃ v, e = .returned v) ∧
      ((∃ ys, ys = nums l ∧ J ys W') ∨ (∃ pre, pre <+: nums l ∧ Jx pre W')) := by
  refine callsIn_of_wp Try.func44 rfl trivial ?_ rfl
  simp only [Try.ntmps44, List.size_toArray, List.length_cons, List.length_nil, Nat.reduceAdd, Nat.reduceSub, Array.replicate_succ, Array.replicate_zero, List.push_toArray, List.append_toArray, List.nil_append, List.cons_append]
  gi_wp2
  gi_loopw [3] (fun p wr => ∃ (pre : List Nat) (r : List UInt8), r.length ≤ l.length ∧ BytesAt wr p r ∧ (∀ k, p.ownBlock = some k → v.ownBlock = some k) ∧ nums l = pre ++ nums r ∧ J pre wr ∧ RowKept v W wr)
    (fun p wr => lenOf p)
  case atStart =>
    exact ⟨[], l, Nat.le_refl _, hv, fun _ h => h, rfl, h0, RowKept.refl _ _⟩
  case round =>
    obtain ⟨pre, r, hk, hr, hpo, he, hJ, hb⟩ := hrel
    have hrk := hr
    obtain ⟨a, cap, rfl, h1, h2, -⟩ := hr.len
    unfold maxLen at h2
    obtain ⟨N, s, e, hg⟩ : ∃ N s e, get r = (N, s, e) := ⟨_, _, _, rfl⟩
    have HC := Lib.hid (Get_any _ _ wr hr)
    by_cases hee : e = 0
    · subst hee
      obtain ⟨hs1, hs2, -⟩ := get_pos hg
      have HN := Lib.hid (nums_step hg)
      have HE := Lib.hid he
      have hlt : pre.length < (nums l).length := by rw [HE.out, HN.out]; simp
      obtain ⟨fn, tmps, assign, body, hy, hR⟩ := hY pre N wr hJ hlt
      have HG := Lib.hid hg
      clear hg he hY
      gi_wp2
      refine ⟨trivial, fun _ => by omega, ?_⟩
      refine (callsIn_wide.2 HC.out).mono ?_
      rintro e w9 ⟨rfl, rfl⟩
      rw [HG.out]
      unfold getV
      clear HC
      gi_wp2
      refine ⟨fun _ => by omega, hR.mono ?_⟩
      rintro e W3 (⟨rfl, hJ3, hk3⟩ | ⟨rfl, hJx3⟩)
      · have hr3 := hk3.row hr hpo
        obtain ⟨hp3, hq3⟩ := hr3.piece hs2 (Nat.le_refl _)
        rw [List.take_length] at hp3
        have hsl := run_slice_l (P := Try.prog) W3 22 a r.length cap Try.undB .i64 (s : Int) (by omega) (by omega)
        have hsz := run_sizeOf_one Try.sizeB
        gi_wp2
        refine ⟨⟨pre ++ [N], r.drop s, by rw [List.length_drop]; omega, by simpa [sliced] using hp3, fun k hk => hpo k (by rw [← hq3]; simpa [sliced] using hk), by rw [HE.out, HN.out]; simp, hJ3, hb.trans hk3⟩, ?_⟩
        simp only [lenOf]; omega
      · gi_wp2
        refine bodyPost_ret (results_none rfl _ _ _) rfl ?_
        exact ⟨⟨_, rfl⟩, .inr ⟨pre ++ [N], by rw [HE.out, HN.out]; exact ⟨nums (r.drop s), by simp⟩, hJx3⟩⟩
    · have HN := Lib.hid (nums_stop hg hee)
      have hne : ((e : Int) != 0) = true := by simp; omega
      have HG := Lib.hid hg
      clear hg hY
      gi_wp2
      refine ⟨trivial, fun _ => by omega, ?_⟩
      refine (callsIn_wide.2 HC.out).mono ?_
      rintro e w9 ⟨rfl, rfl⟩
      rw [HG.out]
      unfold getV
      clear HC
      gi_wp2
      refine ⟨fun _ h => (by cases h), ?_⟩
      gi_wp2
      refine bodyPost_ret (results_none rfl _ _ _) rfl ?_
      exact ⟨⟨_, rfl⟩, .inl ⟨pre, by rw [he, HN.out, List.append_nil], hJ⟩⟩

theorem vAll_stops (n : Nat) (hn : 2 ≤ n) (Bn : Nat) (v : Value) (l : List UInt8) (hl : l.length ≤ 1000) (w : World) (hBn : Bn < w.heap.size) 
    (hc : w.cell? ⟨Bn, 0, none⟩ = some v) (hv : BytesAt w v l) (hvo : ∀ k, v.ownBlock = some k → k < w.heap.size) :
    SeqStopsK Fence.wide n Try.prog 44 #[.pointer (some ⟨Bn, 0, none⟩)] (fun x : Nat => #[numV x]) (RowKept v) (fun ys => ys = nums l) (fun pre => pre <+: nums l) (nums l).length w := fun l0 J Jx W hW _ _ hY h0 =>
  vAll1_in n hn l0 Bn v l hl J Jx hY W ((hW.cell (p := ⟨Bn, 0, none⟩) hBn).trans hc) (hv.under hW hvo) h0
end Go.Proofs.Ytoccanppfdeggaa
