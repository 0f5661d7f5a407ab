/- The walks of the reference's reader (layer 5). -/
import Derived.Test.YtoccanppfdeggaaFrA
import Derived.Test.YtoccanppfdeggaaFrP
namespace Go.Proofs.Ytoccanppfdeggaa
open Go.RowKit Go.Tab

/-- A reader as a value: the bytes, the place, the error. -/
def rdrV (v : Value) (n e : Nat) : Value := .agg #[v, .int .i64 n, .int .i64 e]
def gotV (v : Value) (n e N : Nat) (o : Value) : Value := .agg #[v, .int .i64 n, .int .i64 e, .int .u64 N, o]
theorem ret_got {v o : Value} {n e N : Int} {n' e' N' : Nat} (h1 : n = n') (h2 : e = e') (h3 : N = N') : Ending.returned (.agg #[v, .int .i64 n, .int .i64 e, .int .u64 N, o]) = .returned (gotV v n' e' N' o) := by
  rw [h1, h2, h3]; rfl

set_option maxHeartbeats 800000 in
set_option maxRecDepth 100000 in
theorem bad_any (v : Value) (l : List UInt8) (n e x : Nat) (w : World) (hv : BytesAt w v l) :
    Calls Try.prog 42 #[rdrV v n e, .int .i64 x] w fun r w' => r = .returned (gotV v n x 0 (.slice none 0 0)) ∧ Below w.heap.size w w' := by
  obtain ⟨a, m, cap, rfl, -⟩ := hv.shape
  unfold rdrV
  clear hv
  go_enter Try.func42, Try.ntmps42
  go_wp2
  refine bodyPost_ret (v := .agg #[.slice a m cap, .int .i64 n, .int .i64 x, .int .u64 0, .slice none 0 0]) (by simp [results, Try.results42, go_sem]) rfl ⟨rfl, ?_⟩
  exact ((Below.refl _ _).alloc (Nat.le_refl _) _).alloc (by simp) _

set_option maxHeartbeats 800000 in
set_option maxRecDepth 100000 in
theorem rNum_any (v : Value) (l : List UInt8) (n e : Nat) (w : World) (hv : BytesAt w v l) (hn : n ≤ l.length) (hlen : l.length ≤ 1000000) :
    Calls Try.prog 31 #[rdrV v n e] w fun r w' => ∃ n', r = .returned (gotV v n' (rdNum (l.drop n) e).2.2 (rdNum (l.drop n) e).1 (.slice none 0 0)) ∧ (rdNum (l.drop n) e).2.1 = l.drop n' ∧ n' ≤ l.length ∧ Below w.heap.size w w' := by
  have hvk := hv
  obtain ⟨a, m, cap, rfl, -⟩ := hv.shape
  unfold rdrV
  by_cases he : e = 0
  · subst he
    obtain ⟨N, s, x, hg⟩ : ∃ N s x, get (l.drop n) = (N, s, x) := ⟨_, _, _, rfl⟩
    have HG := Lib.hid hg
    by_cases hx : x = 0
    · subst hx
      have hr : rdNum (l.drop n) 0 = (N, (l.drop n).drop s, 0) := by unfold rdNum; rw [hg]; simp
      have HR := Lib.hid hr
      have hs : s ≤ (l.drop n).length := (put_get hg).2.1
      have hs2 : n + s ≤ l.length := by simp at hs; omega
      clear hr hg hs
      go_enter Try.func31, Try.ntmps31
      go_wp2_with (with_reducible first | refine stop_append ?_ | refine stop_make ?_ | refine stop_slice ?_ | refine stop_copy ?_); refine Stop.out ?_
      refine wpList_slice_l rfl _ _ 22 rfl Try.undB Try.sizeB l (by exact (hvk.alloc _).alloc _) .i64 _ n rfl rfl hn ?_
      intro v1 hv1 _
      go_wp2_with fail
      refine (rGet_any _ _ _ hv1).mono ?_
      rintro e2 w2 ⟨rfl, hb2⟩
      rw [HG.out]
      unfold getA
      have k0 : Cells w2 w.heap.size #[.slice a m cap, .int .i64 n, .int .i64 0] 58 := by
        refine (hb2.block _ (by simp; omega)).trans ?_
        exact (Cells.new w _ _).alloc _
      have k1 : Cells w2 (w.heap.size + 1) #[.slice none 0 0, .int .i64 0, .int .i64 0, .int .u64 0, .slice none 0 0] 62 := by
        refine (hb2.block _ (by simp)).trans ?_
        have := Cells.new (w.alloc (.cells #[.slice a m cap, .int .i64 n, .int .i64 0] 58)) #[.slice none 0 0, .int .i64 0, .int .i64 0, .int .u64 0, .slice none 0 0] 62
        rw [World.size_alloc] at this
        exact this
      have hb : Below w.heap.size w w2 := (((Below.refl _ _).alloc (Nat.le_refl _) _).alloc (by simp) _).trans (hb2.mono (by simp; omega))
      have k0c0 := k0.cell 0 _ rfl
      have k0f0 := k0.frozen 0
      have k0c1 := k0.cell 1 _ rfl
      have k0f1 := k0.frozen 1
      have k0c2 := k0.cell 2 _ rfl
      have k0f2 := k0.frozen 2
      have k1c0 := k1.cell 0 _ rfl
      have k1f0 := k1.frozen 0
      have k1c1 := k1.cell 1 _ rfl
      have k1f1 := k1.frozen 1
      have k1c2 := k1.cell 2 _ rfl
      have k1f2 := k1.frozen 2
      have k1c3 := k1.cell 3 _ rfl
      have k1f3 := k1.frozen 3
      have k1c4 := k1.cell 4 _ rfl
      have k1f4 := k1.frozen 4
      have z1 := k1.lt
      have z0 : w.heap.size < w2.heap.size := by omega
      go_wp2
      refine bodyPost_ret (v := .agg #[.slice a m cap, .int .i64 (n + s), .int .i64 0, .int .u64 N, .slice none 0 0]) (by simp [results, Try.results31, go_sem, *]) rfl ⟨n + s, by rw [HR.out]; exact ret_got (by simp) rfl rfl, by rw [HR.out]; simp [Nat.add_comm], hs2, ?_⟩
      (repeat' (first | (with_reducible refine Below.setCell ?_ ?_ _) | (with_reducible refine Below.alloc ?_ ?_ _) | (with_reducible assumption) | (with_reducible exact Below.refl _ _) | (simp only [World.size_alloc, World.size_setCell]; done) | (simp only [World.size_alloc, World.size_setCell]; omega) | omega))
    · have hr : rdNum (l.drop n) 0 = (0, l.drop n, x) := by unfold rdNum; rw [hg]; simp [hx]
      have HR := Lib.hid hr
      have hbx : ((x : Int) != 0) = true := by simp; omega
      clear hr hg hx
      go_enter Try.func31, Try.ntmps31
      go_wp2_with (with_reducible first | refine stop_append ?_ | refine stop_make ?_ | refine stop_slice ?_ | refine stop_copy ?_); refine Stop.out ?_
      refine wpList_slice_l rfl _ _ 22 rfl Try.undB Try.sizeB l (by exact (hvk.alloc _).alloc _) .i64 _ n rfl rfl hn ?_
      intro v1 hv1 _
      go_wp2_with fail
      refine (rGet_any _ _ _ hv1).mono ?_
      rintro e2 w2 ⟨rfl, hb2⟩
      rw [HG.out]
      unfold getA
      have k0 : Cells w2 w.heap.size #[.slice a m cap, .int .i64 n, .int .i64 0] 58 := by
        refine (hb2.block _ (by simp; omega)).trans ?_
        exact (Cells.new w _ _).alloc _
      have k1 : Cells w2 (w.heap.size + 1) #[.slice none 0 0, .int .i64 0, .int .i64 0, .int .u64 0, .slice none 0 0] 62 := by
        refine (hb2.block _ (by simp)).trans ?_
        have := Cells.new (w.alloc (.cells #[.slice a m cap, .int .i64 n, .int .i64 0] 58)) #[.slice none 0 0, .int .i64 0, .int .i64 0, .int .u64 0, .slice none 0 0] 62
        rw [World.size_alloc] at this
        exact this
      have hb : Below w.heap.size w w2 := (((Below.refl _ _).alloc (Nat.le_refl _) _).alloc (by simp) _).trans (hb2.mono (by simp; omega))
      have k0c0 := k0.cell 0 _ rfl
      have k0f0 := k0.frozen 0
      have k0c1 := k0.cell 1 _ rfl
      have k0f1 := k0.frozen 1
      have k0c2 := k0.cell 2 _ rfl
      have k0f2 := k0.frozen 2
      have z1 := k1.lt
      have z0 : w.heap.size < w2.heap.size := by omega
      go_wp2_with fail
      have hv2 : BytesAt w2 (.slice a m cap) l := hvk.below hb (Nat.le_refl _)
      refine (bad_any (.slice a m cap) l n 0 x _ (hv2.alloc _)).mono ?_
      rintro e3 w3 ⟨rfl, hb3⟩
      unfold gotV
      have k2 : Cells w3 (w.heap.size + 1) #[.slice none 0 0, .int .i64 0, .int .i64 0, .int .u64 0, .slice none 0 0] 62 := (hb3.block _ (by simp; omega)).trans (k1.alloc _)
      have hz3 := hb3.size
      simp only [World.size_alloc] at hz3
      have hb4 : Below w.heap.size w w3 := (hb.alloc (by omega) _).trans (hb3.mono (by simp; omega))
      clear k0c0 k0c1 k0c2 k0f0 k0f1 k0f2
      have k2c0 := k2.cell 0 _ rfl
      have k2f0 := k2.frozen 0
      have k2c1 := k2.cell 1 _ rfl
      have k2f1 := k2.frozen 1
      have k2c2 := k2.cell 2 _ rfl
      have k2f2 := k2.frozen 2
      have k2c3 := k2.cell 3 _ rfl
      have k2f3 := k2.frozen 3
      have k2c4 := k2.cell 4 _ rfl
      have k2f4 := k2.frozen 4
      go_wp2
      refine bodyPost_ret (v := .agg #[.slice a m cap, .int .i64 n, .int .i64 x, .int .u64 0, .slice none 0 0]) (by simp [results, Try.results31, go_sem, *]) rfl ⟨n, by rw [HR.out]; exact ret_got rfl rfl rfl, by rw [HR.out], hn, ?_⟩
      (repeat' (first | (with_reducible refine Below.setCell ?_ ?_ _) | (with_reducible refine Below.alloc ?_ ?_ _) | (with_reducible assumption) | (with_reducible exact Below.refl _ _) | (simp only [World.size_alloc, World.size_setCell]; done) | (simp only [World.size_alloc, World.size_setCell]; omega) | omega))
  · have hr : rdNum (l.drop n) e = (0, l.drop n, e) := by unfold rdNum; simp [he]
    have HR := Lib.hid hr
    have hbx : ((e : Int) != 0) = true := by simp; omega
    clear hr he
    go_enter Try.func31, Try.ntmps31
    go_wp2
    refine bodyPost_ret (v := .agg #[.slice a m cap, .int .i64 n, .int .i64 e, .int .u64 0, .slice none 0 0]) (by simp [results, Try.results31, go_sem, *]) rfl ⟨n, by rw [HR.out]; exact ret_got rfl rfl rfl, by rw [HR.out], hn, ?_⟩
    (repeat' (first | (with_reducible refine Below.setCell ?_ ?_ _) | (with_reducible refine Below.alloc ?_ ?_ _) | (with_reducible assumption) | (with_reducible exact Below.refl _ _) | (simp only [World.size_alloc, World.size_setCell]; done) | (simp only [World.size_alloc, World.size_setCell]; omega) | omega))
end Go.Proofs.Ytoccanppfdeggaa
