/- The walks of the reference's Take and Frame (layer 5). -/
import Derived.Test.YtoccanppfdeggaaFrC
namespace Go.Proofs.Ytoccanppfdeggaa
open Go.RowKit Go.Tab

theorem rdFrame_by (most : Int) (l : List UInt8) (e : Nat) : rdFrame most l e = if (rdNum l e).2.2 ≠ 0 then ([], (rdNum l e).2.1, (rdNum l e).2.2) else
    if max most 0 < ((rdNum l e).1 : Int) then ([], l, 4) else if (rdNum l e).2.1.length < (rdNum l e).1 then ([], l, 2) else rdTake (rdNum l e).1 (rdNum l e).2.1 0 := by
  unfold rdFrame rdNum
  by_cases he : e = 0
  · by_cases hx : (get l).2.2 = 0
    · simp only [he, hx, ne_eq, not_true_eq_false, if_false]
      by_cases h1 : max most 0 < ((get l).1 : Int)
      · simp [h1]
      · rw [if_neg h1, if_neg h1]
        by_cases h2 : l.length - (get l).2.1 < (get l).1
        · rw [if_pos h2, if_pos (by simpa using h2)]
        · rw [if_neg h2, if_neg (by simpa using h2)]
          unfold rdTake
          have e2 : (max ((get l).1 : Int) 0).toNat = (get l).1 := by omega
          simp only [ne_eq, not_true_eq_false, if_false, List.length_drop]
          rw [if_neg (by omega), e2, List.drop_drop]
    · simp [he, hx]
  · simp [he]

set_option maxHeartbeats 800000 in
set_option maxRecDepth 100000 in
theorem rTake_any (v : Value) (l : List UInt8) (n e : Nat) (k : Int) (w : World) (hv : BytesAt w v l) (hn : n ≤ l.length) (hlen : l.length ≤ 1000000) :
    Calls Try.prog 29 #[rdrV v n e, .int .i64 k] w fun r w' => ∃ n' vo, r = .returned (gotV v n' (rdTake k (l.drop n) e).2.2 0 vo) ∧ (∀ W, BytesAt W v l → BytesAt W vo (rdTake k (l.drop n) e).1) ∧ (rdTake k (l.drop n) e).2.1 = l.drop n' ∧ n' ≤ l.length ∧ Below w.heap.size w w' := by
  have hvk := hv
  obtain ⟨a, cap, rfl, hl, hm, hnn⟩ := hv.len
  unfold maxLen at hm
  have hnil : ∀ W, BytesAt W (.slice none 0 0) [] := fun W => RowOf.nil
  unfold rdrV
  by_cases he : e = 0
  · subst he
    by_cases hk0 : k ≤ 0
    · have hr : rdTake k (l.drop n) 0 = ([], l.drop n, 0) := by
        unfold rdTake
        have e2 : max k 0 = 0 := by omega
        simp [e2]
      have HR := Lib.hid hr
      clear hr
      go_enter Try.func29, Try.ntmps29
      go_wp2
      refine bodyPost_ret (v := .agg #[.slice a l.length cap, .int .i64 n, .int .i64 0, .int .u64 0, .slice none 0 0]) (by simp [results, Try.results29, go_sem, *]) rfl ⟨n, _, by rw [HR.out]; exact ret_got rfl rfl rfl, by rw [HR.out]; exact fun W _ => hnil W, by rw [HR.out], hn, ?_⟩
      (repeat' (first | (with_reducible refine Below.setCell ?_ ?_ _) | (with_reducible refine Below.alloc ?_ ?_ _) | (with_reducible assumption) | (with_reducible exact Below.refl _ _) | (simp only [World.size_alloc, World.size_setCell]; done) | (simp only [World.size_alloc, World.size_setCell]; omega) | omega))
    · by_cases hbig : (l.length : Int) - n < k
      · have hr : rdTake k (l.drop n) 0 = ([], l.drop n, 2) := by
          unfold rdTake
          simp only [ne_eq, not_true_eq_false, if_false, List.length_drop]
          rw [if_pos (by omega)]
        have HR := Lib.hid hr
        clear hr
        go_enter Try.func29, Try.ntmps29
        go_wp2_with fail
        refine (bad_any _ l n 0 2 _ ((hvk.alloc _).alloc _)).mono ?_
        rintro e3 w3 ⟨rfl, hb3⟩
        unfold gotV
        have k2 : Cells w3 (w.heap.size + 1) #[.slice none 0 0, .int .i64 0, .int .i64 0, .int .u64 0, .slice none 0 0] 62 := by
          refine (hb3.block _ (by simp)).trans ?_
          have := Cells.new (w.alloc (.cells #[.slice a l.length cap, .int .i64 n, .int .i64 0] 58)) #[.slice none 0 0, .int .i64 0, .int .i64 0, .int .u64 0, .slice none 0 0] 62
          rw [World.size_alloc] at this
          exact this
        have hb : Below w.heap.size w w3 := (((Below.refl _ _).alloc (Nat.le_refl _) _).alloc (by simp) _).trans (hb3.mono (by simp; omega))
        have k2c0 := k2.cell 0 _ rfl
        have k2f0 := k2.frozen 0
        have k2c1 := k2.cell 1 _ rfl
        have k2f1 := k2.frozen 1
        have k2c2 := k2.cell 2 _ rfl
        have k2f2 := k2.frozen 2
        have k2c3 := k2.cell 3 _ rfl
        have k2f3 := k2.frozen 3
        have k2c4 := k2.cell 4 _ rfl
        have k2f4 := k2.frozen 4
        go_wp2
        refine bodyPost_ret (v := .agg #[.slice a l.length cap, .int .i64 n, .int .i64 2, .int .u64 0, .slice none 0 0]) (by simp [results, Try.results29, go_sem, *]) rfl ⟨n, _, by rw [HR.out]; exact ret_got rfl rfl rfl, by rw [HR.out]; exact fun W _ => hnil W, by rw [HR.out], hn, ?_⟩
        (repeat' (first | (with_reducible refine Below.setCell ?_ ?_ _) | (with_reducible refine Below.alloc ?_ ?_ _) | (with_reducible assumption) | (with_reducible exact Below.refl _ _) | (simp only [World.size_alloc, World.size_setCell]; done) | (simp only [World.size_alloc, World.size_setCell]; omega) | omega))
      · obtain ⟨j, rfl⟩ : ∃ j : Nat, k = j := ⟨k.toNat, by omega⟩
        have hnj : n + j ≤ l.length := by omega
        have hr : rdTake (j : Int) (l.drop n) 0 = ((l.take (n + j)).drop n, l.drop (n + j), 0) := by
          unfold rdTake
          have e2 : (max (j : Int) 0).toNat = j := by omega
          simp only [ne_eq, not_true_eq_false, if_false, List.length_drop]
          rw [if_neg (by omega), e2, List.drop_drop, List.drop_take]
          congr 2; omega
        have HR := Lib.hid hr
        clear hr
        go_enter Try.func29, Try.ntmps29
        go_wp2_with (with_reducible first | refine stop_append ?_ | refine stop_make ?_ | refine stop_slice ?_ | refine stop_copy ?_); refine Stop.out ?_
        refine wpList_slice_lhW rfl _ _ _ 22 rfl Try.undB Try.sizeB l (by exact (hvk.alloc _).alloc _) .i64 .i64 _ _ n (n + j) rfl rfl rfl (by omega) (by omega) hnj ?_
        intro v1 hv1 _
        have hv1' : ∀ W, BytesAt W (.slice a l.length cap) l → BytesAt W v1 ((l.take (n + j)).drop n) := hv1
        clear hv1
        obtain ⟨a1, m1, c1, rfl, -⟩ := (hv1' w hvk).shape
        go_wp2
        refine bodyPost_ret (v := .agg #[.slice a l.length cap, .int .i64 (n + j), .int .i64 0, .int .u64 0, .slice a1 m1 c1]) (by simp [results, Try.results29, go_sem, *]) rfl ⟨n + j, _, by rw [HR.out]; exact ret_got (by simp) rfl rfl, by rw [HR.out]; exact hv1', by rw [HR.out], hnj, ?_⟩
        (repeat' (first | (with_reducible refine Below.setCell ?_ ?_ _) | (with_reducible refine Below.alloc ?_ ?_ _) | (with_reducible assumption) | (with_reducible exact Below.refl _ _) | (simp only [World.size_alloc, World.size_setCell]; done) | (simp only [World.size_alloc, World.size_setCell]; omega) | omega))
  · have hr : rdTake k (l.drop n) e = ([], l.drop n, e) := by unfold rdTake; simp [he]
    have HR := Lib.hid hr
    have hbx : ((e : Int) != 0) = true := by simp; omega
    clear hr he
    go_enter Try.func29, Try.ntmps29
    go_wp2
    refine bodyPost_ret (v := .agg #[.slice a l.length cap, .int .i64 n, .int .i64 e, .int .u64 0, .slice none 0 0]) (by simp [results, Try.results29, go_sem, *]) rfl ⟨n, _, by rw [HR.out]; exact ret_got rfl rfl rfl, by rw [HR.out]; exact fun W _ => hnil W, by rw [HR.out], hn, ?_⟩
    (repeat' (first | (with_reducible refine Below.setCell ?_ ?_ _) | (with_reducible refine Below.alloc ?_ ?_ _) | (with_reducible assumption) | (with_reducible exact Below.refl _ _) | (simp only [World.size_alloc, World.size_setCell]; done) | (simp only [World.size_alloc, World.size_setCell]; omega) | omega))

/-- Two boxes behind a call. -/
theorem two_boxes {w w2 : World} {cs0 cs1 : Array Value} {t0 t1 : TypeId} (hb2 : Below ((w.alloc (.cells cs0 t0)).alloc (.cells cs1 t1)).heap.size ((w.alloc (.cells cs0 t0)).alloc (.cells cs1 t1)) w2) :
    Cells w2 w.heap.size cs0 t0 ∧ Cells w2 (w.heap.size + 1) cs1 t1 ∧ Below w.heap.size w w2 ∧ w.heap.size + 1 < w2.heap.size := by
  have k1 : Cells w2 (w.heap.size + 1) cs1 t1 := by
    refine (hb2.block _ (by simp)).trans ?_
    have := Cells.new (w.alloc (.cells cs0 t0)) cs1 t1
    rw [World.size_alloc] at this
    exact this
  refine ⟨(hb2.block _ (by simp; omega)).trans ((Cells.new w _ _).alloc _), k1, (((Below.refl _ _).alloc (Nat.le_refl _) _).alloc (by simp) _).trans (hb2.mono (by simp; omega)), k1.lt⟩

theorem rdNum_lt {l : List UInt8} {e N x : Nat} {ll : List UInt8} (hr : rdNum l e = (N, ll, x)) (h0 : x = 0) : N < 18446744073709551616 := by
  subst h0
  unfold rdNum at hr
  by_cases he : e = 0
  · by_cases hx : (get l).2.2 = 0
    · simp only [he, hx, ne_eq, not_true_eq_false, if_false, Prod.mk.injEq] at hr
      rw [← hr.1]; exact (get_err hx).2.2
    · simp [he, hx] at hr
  · simp [he] at hr

set_option maxHeartbeats 4000000 in
set_option maxRecDepth 100000 in
theorem rFrame_any (v : Value) (l : List UInt8) (n e : Nat) (most : Int) (w : World) (hv : BytesAt w v l) (hn : n ≤ l.length) (hlen : l.length ≤ 1000000) (hmost : most ≤ 9223372036854775807) :
    Calls Try.prog 34 #[rdrV v n e, .int .i64 most] w fun r w' => ∃ n' N' vo, r = .returned (gotV v n' (rdFrame most (l.drop n) e).2.2 N' vo) ∧ (∀ W, BytesAt W v l → BytesAt W vo (rdFrame most (l.drop n) e).1) ∧ (rdFrame most (l.drop n) e).2.1 = l.drop n' ∧ n' ≤ l.length ∧ Below w.heap.size w w' := by
  have hvk := hv
  obtain ⟨a, cap, rfl, hl, hm, hnn⟩ := hv.len
  unfold maxLen at hm
  have hnil : ∀ W, BytesAt W (.slice none 0 0) [] := fun W => RowOf.nil
  have hby := rdFrame_by most (l.drop n) e
  have hnum := rNum_any (.slice a l.length cap) l n e
  obtain ⟨N, ll, x, hr⟩ : ∃ N ll x, rdNum (l.drop n) e = (N, ll, x) := ⟨_, _, _, rfl⟩
  rw [hr] at hby hnum
  simp only at hby hnum
  have hN := rdNum_lt hr
  clear hr
  unfold rdrV gotV at hnum
  by_cases hx : x = 0
  · subst hx
    have HN := Lib.hid (hN rfl)
    clear hN
    rw [if_neg (by simp)] at hby
    by_cases hbig : max most 0 < (N : Int)
    · rw [if_pos hbig] at hby
      have HR := Lib.hid hby
      obtain ⟨M, hM⟩ : ∃ M : Nat, max most 0 = (M : Int) := ⟨(max most 0).toNat, by omega⟩
      have hMN : M < N := by omega
      have hcase : most < 0 ∧ M = 0 ∨ most = M := by omega
      clear hby hbig hM
      rcases hcase with ⟨hm0, rfl⟩ | rfl
      all_goals
        go_enter Try.func34, Try.ntmps34
        unfold rdrV
        go_wp2_with fail
        refine (hnum _ ((hvk.alloc _).alloc _) hn hlen).mono ?_
        rintro e2 w2 ⟨n2, rfl, hl2, hn2, hb2⟩
        obtain ⟨k0, k1, hb, z1⟩ := two_boxes hb2
        clear hb2
        have z0 : w.heap.size < w2.heap.size := by omega
        have k0c0 := k0.cell 0 _ rfl
        have k0f0 := k0.frozen 0
        have k0c1 := k0.cell 1 _ rfl
        have k0f1 := k0.frozen 1
        have k0c2 := k0.cell 2 _ rfl
        have k0f2 := k0.frozen 2
        go_wp2_with fail
        refine (bad_any _ l n e 4 _ ((hvk.below hb (Nat.le_refl _)).alloc _)).mono ?_
        rintro e3 w3 ⟨rfl, hb3⟩
        unfold gotV
        have k2 : Cells w3 (w.heap.size + 1) _ _ := (hb3.block _ (by simp; omega)).trans (k1.alloc _)
        have hb4 : Below w.heap.size w w3 := (hb.alloc (by omega) _).trans (hb3.mono (by simp; omega))
        clear k0c0 k0c1 k0c2 k0f0 k0f1 k0f2 hb3
        have k2c0 := k2.cell 0 _ rfl
        have k2f0 := k2.frozen 0
        have k2c1 := k2.cell 1 _ rfl
        have k2f1 := k2.frozen 1
        have k2c2 := k2.cell 2 _ rfl
        have k2f2 := k2.frozen 2
        have k2c3 := k2.cell 3 _ rfl
        have k2f3 := k2.frozen 3
        have k2c4 := k2.cell 4 _ rfl
        have k2f4 := k2.frozen 4
        go_wp2
        refine bodyPost_ret (v := .agg #[.slice a l.length cap, .int .i64 n, .int .i64 4, .int .u64 0, .slice none 0 0]) (by simp [results, Try.results34, go_sem, *]) rfl ⟨n, 0, _, by rw [HR.out]; exact ret_got rfl rfl rfl, by rw [HR.out]; exact fun W _ => hnil W, by rw [HR.out], hn, ?_⟩
        (repeat' (first | (with_reducible refine Below.setCell ?_ ?_ _) | (with_reducible refine Below.alloc ?_ ?_ _) | (with_reducible assumption) | (with_reducible exact Below.refl _ _) | (simp only [World.size_alloc, World.size_setCell]; done) | (simp only [World.size_alloc, World.size_setCell]; omega) | omega))
    · rw [if_neg hbig] at hby
      by_cases hsh : ll.length < N
      · rw [if_pos hsh] at hby
        have HR := Lib.hid hby
        have hm0 : most < 0 ∧ False ∨ 0 ≤ most ∧ (N : Int) ≤ most := by omega
        obtain ⟨hm1, hNM⟩ : 0 ≤ most ∧ (N : Int) ≤ most := by omega
        clear hby hbig hm0
        go_enter Try.func34, Try.ntmps34
        unfold rdrV
        go_wp2_with fail
        refine (hnum _ ((hvk.alloc _).alloc _) hn hlen).mono ?_
        rintro e2 w2 ⟨n2, rfl, hl2, hn2, hb2⟩
        have hshi : (l.length : Int) - n2 < N := by subst hl2; simp at hsh; omega
        clear hsh
        obtain ⟨k0, k1, hb, z1⟩ := two_boxes hb2
        clear hb2
        have z0 : w.heap.size < w2.heap.size := by omega
        have k0c0 := k0.cell 0 _ rfl
        have k0f0 := k0.frozen 0
        have k0c1 := k0.cell 1 _ rfl
        have k0f1 := k0.frozen 1
        have k0c2 := k0.cell 2 _ rfl
        have k0f2 := k0.frozen 2
        go_wp2_with fail
        refine (bad_any _ l n e 2 _ ((hvk.below hb (Nat.le_refl _)).alloc _)).mono ?_
        rintro e3 w3 ⟨rfl, hb3⟩
        unfold gotV
        have k2 : Cells w3 (w.heap.size + 1) _ _ := (hb3.block _ (by simp; omega)).trans (k1.alloc _)
        have hb4 : Below w.heap.size w w3 := (hb.alloc (by omega) _).trans (hb3.mono (by simp; omega))
        clear k0c0 k0c1 k0c2 k0f0 k0f1 k0f2 hb3
        have k2c0 := k2.cell 0 _ rfl
        have k2f0 := k2.frozen 0
        have k2c1 := k2.cell 1 _ rfl
        have k2f1 := k2.frozen 1
        have k2c2 := k2.cell 2 _ rfl
        have k2f2 := k2.frozen 2
        have k2c3 := k2.cell 3 _ rfl
        have k2f3 := k2.frozen 3
        have k2c4 := k2.cell 4 _ rfl
        have k2f4 := k2.frozen 4
        go_wp2
        refine bodyPost_ret (v := .agg #[.slice a l.length cap, .int .i64 n, .int .i64 2, .int .u64 0, .slice none 0 0]) (by simp [results, Try.results34, go_sem, *]) rfl ⟨n, 0, _, by rw [HR.out]; exact ret_got rfl rfl rfl, by rw [HR.out]; exact fun W _ => hnil W, by rw [HR.out], hn, ?_⟩
        (repeat' (first | (with_reducible refine Below.setCell ?_ ?_ _) | (with_reducible refine Below.alloc ?_ ?_ _) | (with_reducible assumption) | (with_reducible exact Below.refl _ _) | (simp only [World.size_alloc, World.size_setCell]; done) | (simp only [World.size_alloc, World.size_setCell]; omega) | omega))
      · rw [if_neg hsh] at hby
        have HR := Lib.hid hby
        have hcase : most < 0 ∧ N = 0 ∨ 0 ≤ most ∧ (N : Int) ≤ most := by omega
        clear hby hbig
        rcases hcase with ⟨hm0, rfl⟩ | ⟨hm0, hNM⟩
        · rw [show ((0 : Nat) : Int) = 0 from rfl] at HR
          go_enter Try.func34, Try.ntmps34
          unfold rdrV
          go_wp2_with fail
          refine (hnum _ ((hvk.alloc _).alloc _) hn hlen).mono ?_
          rintro e2 w2 ⟨n2, rfl, hl2, hn2, hb2⟩
          have hshi : (0 : Int) ≤ (l.length : Int) - n2 := by subst hl2; simp at hsh; omega
          have HL := Lib.hid hl2
          clear hsh hl2
          obtain ⟨k0, k1, hb, z1⟩ := two_boxes hb2
          clear hb2
          have z0 : w.heap.size < w2.heap.size := by omega
          have k0c0 := k0.cell 0 _ rfl
          have k0f0 := k0.frozen 0
          have k0c1 := k0.cell 1 _ rfl
          have k0f1 := k0.frozen 1
          have k0c2 := k0.cell 2 _ rfl
          have k0f2 := k0.frozen 2
          go_wp2_with fail
          refine (rTake_any (.slice a l.length cap) l n2 0 0 _ ((hvk.below hb (Nat.le_refl _)).alloc _) hn2 hlen).mono ?_
          rintro e3 w3 ⟨n3, vo, rfl, hvo, hl3, hn3, hb3⟩
          obtain ⟨ao, mo, co, rfl, -⟩ := (hvo w hvk).shape
          unfold gotV
          have k2 : Cells w3 (w.heap.size + 1) _ _ := (hb3.block _ (by simp; omega)).trans (k1.alloc _)
          have hb4 : Below w.heap.size w w3 := (hb.alloc (by omega) _).trans (hb3.mono (by simp; omega))
          clear k0c0 k0c1 k0c2 k0f0 k0f1 k0f2 hb3
          rw [HL.out] at HR
          rw [← HR.out] at hvo hl3
          have HV := Lib.hid hvo
          have HL3 := Lib.hid hl3
          obtain ⟨e5, he5⟩ : ∃ e5, e5 = (rdTake 0 (l.drop n2) 0).2.2 := ⟨_, rfl⟩
          have HE5 := Lib.hid he5
          rw [← he5]
          clear hvo hl3 he5
          have k2c0 := k2.cell 0 _ rfl
          have k2f0 := k2.frozen 0
          have k2c1 := k2.cell 1 _ rfl
          have k2f1 := k2.frozen 1
          have k2c2 := k2.cell 2 _ rfl
          have k2f2 := k2.frozen 2
          have k2c3 := k2.cell 3 _ rfl
          have k2f3 := k2.frozen 3
          have k2c4 := k2.cell 4 _ rfl
          have k2f4 := k2.frozen 4
          go_wp2
          refine bodyPost_ret (v := .agg #[.slice a l.length cap, .int .i64 n3, .int .i64 e5, .int .u64 0, .slice ao mo co]) (by simp [results, Try.results34, go_sem, *]) rfl ⟨n3, 0, _, by rw [HR.out, ← HE5.out]; exact ret_got rfl rfl rfl, HV.out, HL3.out, hn3, ?_⟩
          (repeat' (first | (with_reducible refine Below.setCell ?_ ?_ _) | (with_reducible refine Below.alloc ?_ ?_ _) | (with_reducible assumption) | (with_reducible exact Below.refl _ _) | (simp only [World.size_alloc, World.size_setCell]; done) | (simp only [World.size_alloc, World.size_setCell]; omega) | omega))
        · go_enter Try.func34, Try.ntmps34
          unfold rdrV
          go_wp2_with fail
          refine (hnum _ ((hvk.alloc _).alloc _) hn hlen).mono ?_
          rintro e2 w2 ⟨n2, rfl, hl2, hn2, hb2⟩
          have hshi : (N : Int) ≤ (l.length : Int) - n2 := by subst hl2; simp at hsh; omega
          have HL := Lib.hid hl2
          clear hsh hl2
          obtain ⟨k0, k1, hb, z1⟩ := two_boxes hb2
          clear hb2
          have z0 : w.heap.size < w2.heap.size := by omega
          have k0c0 := k0.cell 0 _ rfl
          have k0f0 := k0.frozen 0
          have k0c1 := k0.cell 1 _ rfl
          have k0f1 := k0.frozen 1
          have k0c2 := k0.cell 2 _ rfl
          have k0f2 := k0.frozen 2
          go_wp2_with fail
          refine (rTake_any (.slice a l.length cap) l n2 0 N _ ((hvk.below hb (Nat.le_refl _)).alloc _) hn2 hlen).mono ?_
          rintro e3 w3 ⟨n3, vo, rfl, hvo, hl3, hn3, hb3⟩
          obtain ⟨ao, mo, co, rfl, -⟩ := (hvo w hvk).shape
          unfold gotV
          have k2 : Cells w3 (w.heap.size + 1) _ _ := (hb3.block _ (by simp; omega)).trans (k1.alloc _)
          have hb4 : Below w.heap.size w w3 := (hb.alloc (by omega) _).trans (hb3.mono (by simp; omega))
          clear k0c0 k0c1 k0c2 k0f0 k0f1 k0f2 hb3
          rw [HL.out] at HR
          rw [← HR.out] at hvo hl3
          have HV := Lib.hid hvo
          have HL3 := Lib.hid hl3
          obtain ⟨e5, he5⟩ : ∃ e5, e5 = (rdTake N (l.drop n2) 0).2.2 := ⟨_, rfl⟩
          have HE5 := Lib.hid he5
          rw [← he5]
          clear hvo hl3 he5
          have k2c0 := k2.cell 0 _ rfl
          have k2f0 := k2.frozen 0
          have k2c1 := k2.cell 1 _ rfl
          have k2f1 := k2.frozen 1
          have k2c2 := k2.cell 2 _ rfl
          have k2f2 := k2.frozen 2
          have k2c3 := k2.cell 3 _ rfl
          have k2f3 := k2.frozen 3
          have k2c4 := k2.cell 4 _ rfl
          have k2f4 := k2.frozen 4
          go_wp2
          refine bodyPost_ret (v := .agg #[.slice a l.length cap, .int .i64 n3, .int .i64 e5, .int .u64 0, .slice ao mo co]) (by simp [results, Try.results34, go_sem, *]) rfl ⟨n3, 0, _, by rw [HR.out, ← HE5.out]; exact ret_got rfl rfl rfl, HV.out, HL3.out, hn3, ?_⟩
          (repeat' (first | (with_reducible refine Below.setCell ?_ ?_ _) | (with_reducible refine Below.alloc ?_ ?_ _) | (with_reducible assumption) | (with_reducible exact Below.refl _ _) | (simp only [World.size_alloc, World.size_setCell]; done) | (simp only [World.size_alloc, World.size_setCell]; omega) | omega))
  · rw [if_pos hx] at hby
    have HR := Lib.hid hby
    have hbx : ((x : Int) != 0) = true := by simp; omega
    clear hby hx hN
    go_enter Try.func34, Try.ntmps34
    unfold rdrV
    go_wp2_with fail
    refine (hnum _ ((hvk.alloc _).alloc _) hn hlen).mono ?_
    rintro e2 w2 ⟨n2, rfl, hl2, hn2, hb2⟩
    obtain ⟨k0, k1, hb, z1⟩ := two_boxes hb2
    have HL := Lib.hid hl2
    clear hb2 hl2
    have z0 : w.heap.size < w2.heap.size := by omega
    have k0c0 := k0.cell 0 _ rfl
    have k0f0 := k0.frozen 0
    have k0c1 := k0.cell 1 _ rfl
    have k0f1 := k0.frozen 1
    have k0c2 := k0.cell 2 _ rfl
    have k0f2 := k0.frozen 2
    have k1c0 := k1.cell 0 _ rfl
    have k1f0 := k1.frozen 0
    have k1c1 := k1.cell 1 _ rfl
    have k1f1 := k1.frozen 1
    have k1c2 := k1.cell 2 _ rfl
    have k1f2 := k1.frozen 2
    have k1c3 := k1.cell 3 _ rfl
    have k1f3 := k1.frozen 3
    have k1c4 := k1.cell 4 _ rfl
    have k1f4 := k1.frozen 4
    go_wp2
    refine bodyPost_ret (v := .agg #[.slice a l.length cap, .int .i64 n2, .int .i64 x, .int .u64 N, .slice none 0 0]) (by simp [results, Try.results34, go_sem, *]) rfl ⟨n2, N, _, by rw [HR.out]; exact ret_got rfl rfl rfl, by rw [HR.out]; exact fun W _ => hnil W, by rw [HR.out]; exact HL.out, hn2, ?_⟩
    (repeat' (first | (with_reducible refine Below.setCell ?_ ?_ _) | (with_reducible refine Below.alloc ?_ ?_ _) | (with_reducible assumption) | (with_reducible exact Below.refl _ _) | (simp only [World.size_alloc, World.size_setCell]; done) | (simp only [World.size_alloc, World.size_setCell]; omega) | omega))
end Go.Proofs.Ytoccanppfdeggaa
