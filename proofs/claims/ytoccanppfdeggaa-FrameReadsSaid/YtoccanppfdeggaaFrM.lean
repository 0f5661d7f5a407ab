/- The walk of FrameReads (under way). -/
import Derived.Test.YtoccanppfdeggaaFrL
import Derived.Test.YtoccanppfdeggaaFrH
import Derived.Test.YtoccanppfdeggaaFrD
import Derived.Deep.RegionHeld3
namespace Go.Proofs.Ytoccanppfdeggaa
open Go.RowKit Go.Tab

/-- v reads as a row of calls: which one, and how many bytes. -/
def OpsAt (w : World) (v : Value) (l : List (Nat × Int)) : Prop :=
  (∃ a cap, v = .slice a l.length cap ∧ l.length ≤ cap ∧ cap ≤ maxLen ∧ (a = none → l = []) ∧
    ∀ x, a = some x → l ≠ [] → x.spot = none ∧ x.block < w.heap.size ∧ ∀ j (h : j < l.length), w.cell? ⟨x.block, x.off + j * 2, none⟩ = some (.int .u8 (l[j].1 : Int)) ∧ w.cell? ⟨x.block, x.off + j * 2 + 1, none⟩ = some (.int .i64 l[j].2)) ∧
  ∀ p ∈ l, p.1 < 256 ∧ -9223372036854775808 ≤ p.2 ∧ p.2 ≤ 9223372036854775807
theorem OpsAt.below {w w' : World} {v : Value} {l : List (Nat × Int)} (h : OpsAt w v l) (hb : Below w.heap.size w w') : OpsAt w' v l := by
  obtain ⟨⟨a, cap, rfl, h1, h2, h3, h4⟩, h5⟩ := h
  refine ⟨⟨a, cap, rfl, h1, h2, h3, fun x hx hl => ?_⟩, h5⟩
  obtain ⟨g1, g2, g3⟩ := h4 x hx hl
  refine ⟨g1, Nat.lt_of_lt_of_le g2 hb.size, fun j hj => ?_⟩
  obtain ⟨g4, g5⟩ := g3 j hj
  exact ⟨(hb.cell (by exact g2)).trans g4, (hb.cell (by exact g2)).trans g5⟩
theorem OpsAt.at {w : World} {a : Option Addr} {n cap : Nat} {l : List (Nat × Int)} (h : OpsAt w (.slice a n cap) l) {j : Nat} (hj : j < l.length) :
    ∃ b off, a = some ⟨b, off, none⟩ ∧ b < w.heap.size ∧ w.cell? ⟨b, off + j * 2, none⟩ = some (.int .u8 (l[j].1 : Int)) ∧ w.cell? ⟨b, off + j * 2 + 1, none⟩ = some (.int .i64 l[j].2) ∧ l[j].1 < 256 ∧ -9223372036854775808 ≤ l[j].2 ∧ l[j].2 ≤ 9223372036854775807 := by
  obtain ⟨⟨a', cap', he, h1, h2, h3, h4⟩, h5⟩ := h
  cases he
  cases a with
  | none => have := h3 rfl; subst this; simp at hj
  | some x =>
    obtain ⟨b, off, sp⟩ := x
    obtain ⟨rfl, g2, g3⟩ := h4 _ rfl (by intro h0; subst h0; simp at hj)
    obtain ⟨g4, g5⟩ := g3 j hj
    exact ⟨b, off, rfl, g2, g4, g5, h5 _ (List.getElem_mem hj)⟩

theorem wrap_u8 (c : UInt8) : IntKind.u8.wrap ((c.toNat : Int) + 1) = ((c + 1).toNat : Int) := by
  have h1 : (c + 1).toNat = (c.toNat + 1) % 256 := by rw [UInt8.toNat_add]; rfl
  rw [h1, IntKind.wrap_u8]
  have h2 : c.toNat < 256 := c.toNat_lt
  omega
theorem rdTake_len (n : Int) (l : List UInt8) (e : Nat) : (rdTake n l e).1.length ≤ l.length := by
  unfold rdTake
  split
  · simp
  split
  · simp
  · simp; omega
theorem rdTake_one (l : List UInt8) (e : Nat) : (rdTake 1 l e).1.length ≤ 1 := by
  unfold rdTake
  split
  · simp
  split
  · simp
  · simp; omega

set_option maxHeartbeats 4000000 in
set_option maxRecDepth 100000 in
theorem FrameReads_walk (a0 : Value) (l0 : List UInt8) (a1 : Value) (l1 : List (Nat × Int)) (w : World) (w0 : BytesAt w a0 l0) (w1 : OpsAt w a1 l1) :
    Calls Try.prog 11 #[a0, a1] w fun e w' => e = .returned (.bool true) ∧ Below w.heap.size w w' := by
  have wk := w0
  obtain ⟨a, cap, rfl, hl, hm, hn⟩ := w0.len
  obtain ⟨ao, co, rfl, q1, q2, -⟩ := id w1.1
  unfold maxLen at hm q2
  clear w0
  by_cases h : 300 < l0.length
  · go_enter Try.func11, Try.ntmps11
    go_wp2_with fail
    refine (fwakes_any w).mono ?_
    rintro e w1 ⟨rfl, hb1⟩
    go_wp2
    go_ret
    exact ⟨rfl, hb1⟩
  by_cases h60 : 60 < l1.length
  · have h2 : l0.length ≤ 300 := by omega
    go_enter Try.func11, Try.ntmps11
    go_wp2_with fail
    refine (fwakes_any w).mono ?_
    rintro e w1 ⟨rfl, hb1⟩
    go_wp2
    go_ret
    exact ⟨rfl, hb1⟩
  have h2 : l0.length ≤ 300 := by omega
  have h3 : l1.length ≤ 60 := by omega
  clear h h60
  go_enter Try.func11, Try.ntmps11
  go_wp2_with fail
  refine (fwakes_any w).mono ?_
  rintro e w2 ⟨rfl, hb2⟩
  have hz2 := hb2.size
  go_wp2_with fail
  refine (New_any _ l0 w2 (wk.below hb2 (Nat.le_refl _)) (by omega)).mono ?_
  rintro e w3 ⟨g, b, rfl, hrd, hg1, hbo, hb3'⟩
  have hb3 := hb2.trans (hb3'.mono hz2)
  have hz3 := hb3.size
  have hglt := hrd.lt
  go_wp2_with fail
  have hB3 : Below w.heap.size w (w3.alloc (.cells #[.slice a l0.length cap, .int .i64 0, .int .i64 0] 58)) := hb3.alloc hz3 _
  go_loopw [36] (fun i wr => ∃ (k : Nat) (lr : List UInt8) (e n : Nat), k ≤ l1.length ∧ i = .int .i64 k ∧ RdAt wr g b lr e ∧ Cells wr w3.heap.size #[.slice a l0.length cap, .int .i64 (n : Nat), .int .i64 (e : Nat)] 58 ∧ lr = l0.drop n ∧ n ≤ l0.length ∧ Below w.heap.size w wr ∧ w3.heap.size < wr.heap.size) (fun i _ => l1.length - (intOf i).toNat)
  case atStart => exact ⟨0, l0, 0, 0, Nat.zero_le _, rfl, hrd.alloc _, Cells.new _ _ _, by simp, Nat.zero_le _, hB3, by simp⟩
  case round =>
    obtain ⟨k, lr, e, n, hk, rfl, hrd', hX, hlr, hn0, hb, hz⟩ := hrel
    have HLR := Lib.hid hlr
    have hlen : lr.length ≤ 300 := by rw [hlr]; simp; omega
    clear hlr
    by_cases hkl : k < l1.length
    · obtain ⟨b1, o1, rfl, g1, d1, d2, p1, p2, p3⟩ := (w1.below hb).at hkl
      generalize l1[k] = p at *
      obtain ⟨kd, nn⟩ := p
      simp only at d1 d2 p1 p2 p3
      have hXc0 := hX.cell 0 _ rfl
      have hXf0 := hX.frozen 0
      have hXc1 := hX.cell 1 _ rfl
      have hXf1 := hX.frozen 1
      have hXc2 := hX.cell 2 _ rfl
      have hXf2 := hX.frozen 2
      have hr6 : kd % 6 = 0 ∨ kd % 6 = 1 ∨ kd % 6 = 2 ∨ kd % 6 = 3 ∨ kd % 6 = 4 ∨ kd % 6 = 5 := by omega
      rcases hr6 with h6 | h6 | h6 | h6 | h6 | h6
      · have hm6 : (kd : Int) % 6 = 0 := by omega
        have P2 := Lib.hid p2
        have P3 := Lib.hid p3
        clear h6 p2 p3
        have hv1 : BytesAt (wr.alloc (.cells #[.int .u8 (kd : Int), .int .i64 nn] 60)) (.slice a l0.length cap) l0 := (wk.below hb (Nat.le_refl _)).alloc _
        have hO1 := Cells.new wr #[.int .u8 (kd : Int), .int .i64 nn] 60
        have hR1 := hrd'.alloc (.cells #[.int .u8 (kd : Int), .int .i64 nn] 60)
        have hX1 := hX.alloc (.cells #[.int .u8 (kd : Int), .int .i64 nn] 60)
        have hb1 := hb.alloc hb.size (.cells #[.int .u8 (kd : Int), .int .i64 nn] 60)
        have hN := rTake_any _ l0 n e 1 _ hv1 hn0 (by omega)
        rw [← HLR.out] at hN
        have ht1 : (rdTake 1 lr e).1.length ≤ 1 := rdTake_one _ _
        have hByte := fun W' h => RByte_any g b lr e W' h (by omega)
        unfold rdByte at hByte
        go_wp2_with fail
        refine hN.mono ?_
        clear hN
        rintro e4 w4 ⟨n', vo, rfl, hvo, hl', hn', hb4'⟩
        have hR4 := hR1.below hb4'
        have hX4 : Cells w4 w3.heap.size _ _ := (hb4'.block _ (by simp; omega)).trans hX1
        have hO4 : Cells w4 wr.heap.size _ _ := (hb4'.block _ (by simp)).trans hO1
        have hb4 := hb1.trans (hb4'.mono (by have := hb.size; simp; omega))
        have hz4 : wr.heap.size < w4.heap.size := by have := hb4'.size; simp at this; omega
        unfold gotV
        clear hXc0 hXc1 hXc2 hXf0 hXf1 hXf2
        have hX4c0 := hX4.cell 0 _ rfl
        have hX4f0 := hX4.frozen 0
        have hX4c1 := hX4.cell 1 _ rfl
        have hX4f1 := hX4.frozen 1
        have hX4c2 := hX4.cell 2 _ rfl
        have hX4f2 := hX4.frozen 2
        have hO4c0 := hO4.cell 0 _ rfl
        have hO4f0 := hO4.frozen 0
        have hO4c1 := hO4.cell 1 _ rfl
        have hO4f1 := hO4.frozen 1
        generalize rdTake 1 lr e = rt at *
        obtain ⟨t, lr2, e2⟩ := rt
        simp only at hl' ht1 hvo
        have hvo4 := hvo w4 (wk.below hb4 (Nat.le_refl _))
        obtain ⟨av, cv, rfl, -, -, -⟩ := hvo4.len
        clear hvo4
        rcases t with _ | ⟨c, t⟩
        · go_wp2_with fail
          have hO5 := hO4.alloc (.cells #[.slice a l0.length cap, .int .i64 (n' : Int), .int .i64 (e2 : Int), .int .u64 0, .slice av 0 cv] 62)
          have hR5 := hR4.alloc (.cells #[.slice a l0.length cap, .int .i64 (n' : Int), .int .i64 (e2 : Int), .int .u64 0, .slice av 0 cv] 62)
          have hX5 := hX4.alloc (.cells #[.slice a l0.length cap, .int .i64 (n' : Int), .int .i64 (e2 : Int), .int .u64 0, .slice av 0 cv] 62)
          have hx5 := Cells.new w4 #[.slice a l0.length cap, .int .i64 (n' : Int), .int .i64 (e2 : Int), .int .u64 0, .slice av 0 cv] 62
          have hb5 := hb4.alloc (by have := hb.size; omega) (.cells #[.slice a l0.length cap, .int .i64 (n' : Int), .int .i64 (e2 : Int), .int .u64 0, .slice av 0 cv] 62)
          have hz5 : w4.heap.size < (w4.alloc (.cells #[.slice a l0.length cap, .int .i64 (n' : Int), .int .i64 (e2 : Int), .int .u64 0, .slice av 0 cv] 62)).heap.size := hx5.lt
          clear hX4c0 hX4c1 hX4c2 hX4f0 hX4f1 hX4f2 hO4c0 hO4c1 hO4f0 hO4f1
          generalize (w4.alloc (.cells #[.slice a l0.length cap, .int .i64 (n' : Int), .int .i64 (e2 : Int), .int .u64 0, .slice av 0 cv] 62)) = W5 at *
          refine (hByte _ hR5).mono ?_
          rintro e6 w6 ⟨rfl, hR6, hg6⟩
          clear hByte
          have hX6 : Cells w6 w3.heap.size _ _ := (hg6.block _ (by have := hX5.lt; simpa using this) (by simp; omega)).trans hX5
          have hx6 : Cells w6 w4.heap.size _ _ := (hg6.block _ (by have := hx5.lt; simpa using this) (by simp; omega)).trans hx5
          have hb6 : Below w.heap.size w w6 := (hb5).grown hg6 (by have := hb5.size; simpa using this) (fun k hk => by cases hk; omega)
          have hX6c0 := hX6.cell 0 _ rfl
          have hX6f0 := hX6.frozen 0
          have hX6c1 := hX6.cell 1 _ rfl
          have hX6f1 := hX6.frozen 1
          have hX6c2 := hX6.cell 2 _ rfl
          have hX6f2 := hX6.frozen 2
          have hx6c0 := hx6.cell 0 _ rfl
          have hx6f0 := hx6.frozen 0
          have hx6c1 := hx6.cell 1 _ rfl
          have hx6f1 := hx6.frozen 1
          have hx6c2 := hx6.cell 2 _ rfl
          have hx6f2 := hx6.frozen 2
          have hx6c3 := hx6.cell 3 _ rfl
          have hx6f3 := hx6.frozen 3
          have hx6c4 := hx6.cell 4 _ rfl
          have hx6f4 := hx6.frozen 4
          go_wp2_with fail
          have hz6 := hX6.lt
          have hX7 := ((hX6.set 0 (by simp) (.slice a l0.length cap)).set 1 (by simp) (.int .i64 (n' : Int))).set 2 (by simp) (.int .i64 (e2 : Int))
          have hne : ∀ k, some w3.heap.size = some k → k ≠ g ∧ b ≠ some k := fun k hk => by cases hk; exact ⟨by omega, fun h => by have := hbo _ h; omega⟩
          have hR7 := ((hR6.kept (grownBy_setAt w6 w3.heap.size 0 (.slice a l0.length cap)) hne).kept (grownBy_setAt _ w3.heap.size 1 (.int .i64 (n' : Int))) hne).kept (grownBy_setAt _ w3.heap.size 2 (.int .i64 (e2 : Int))) hne
          have hb7 := ((hb6.setCell (p := ⟨w3.heap.size, 0, none⟩) (by exact hz3) (.slice a l0.length cap)).setCell (p := ⟨w3.heap.size, 1, none⟩) (by exact hz3) (.int .i64 (n' : Int))).setCell (p := ⟨w3.heap.size, 2, none⟩) (by exact hz3) (.int .i64 (e2 : Int))
          have hz7 : w3.heap.size < (((w6.setCell ⟨w3.heap.size, 0, none⟩ (.slice a l0.length cap)).setCell ⟨w3.heap.size, 1, none⟩ (.int .i64 (n' : Int))).setCell ⟨w3.heap.size, 2, none⟩ (.int .i64 (e2 : Int))).heap.size := hX7.lt
          clear hX6c0 hX6c1 hX6c2 hX6f0 hX6f1 hX6f2 hx6c0 hx6c1 hx6c2 hx6c3 hx6c4 hx6f0 hx6f1 hx6f2 hx6f3 hx6f4
          generalize (((w6.setCell ⟨w3.heap.size, 0, none⟩ (.slice a l0.length cap)).setCell ⟨w3.heap.size, 1, none⟩ (.int .i64 (n' : Int))).setCell ⟨w3.heap.size, 2, none⟩ (.int .i64 (e2 : Int))) = W7 at *
          have D1 : ∀ x : Under W7, x.w.cell? ⟨w3.heap.size, 1, none⟩ = some (.int .i64 (n' : Int)) := fun x => (x.below.cell (by exact hz7)).trans (hX7.cell 1 _ rfl)
          have D2 : ∀ x : Under W7, x.w.cell? ⟨w3.heap.size, 2, none⟩ = some (.int .i64 (e2 : Int)) := fun x => (x.below.cell (by exact hz7)).trans (hX7.cell 2 _ rfl)
          have hll : (lr2.length : Int) = (l0.length : Int) - (n' : Int) := by rw [hl']; simp; omega
          have hnb : ((lr2.length : Int) != (l0.length : Int) - (n' : Int)) = false := by rw [bne_eq_false_iff_eq]; exact hll
          have HL := Lib.hid hl'
          clear hll hl'
          refine wp_region_under W7 (by kernel_rfl) (by kernel_rfl) (Below.refl _ _) ?_
          repeat (go_big_quiet_step ((first
            | (go_at_call 38; exact Under.call _ ((Left_any g b lr2 e2 _ (hR7.below (Under.below _))).mono fun e w' ⟨h1, h2⟩ => ⟨h1, by rw [← h2]; exact Below.refl _ _⟩))
            | (go_at_call 39; exact Under.call _ ((Err_any g b lr2 e2 _ (hR7.below (Under.below _))).mono fun e w' ⟨h1, h2⟩ => ⟨h1, by rw [← h2]; exact Below.refl _ _⟩)))))
          refine wpQuiet_nil ?_
          rintro _ ⟨x, rfl⟩
          have hb8 := hb7.trans (x.below.mono hb7.size)
          have hR8 := hR7.below x.below
          have hX8 : Cells x.w w3.heap.size _ _ := (x.below.block _ hz7).trans hX7
          have hz8 : w3.heap.size < x.w.heap.size := hX8.lt
          clear D1 D2
          go_wp2
          go_roundw
          case rel => exact ⟨k + 1, lr2, e2, n', hkl, by go_num, hR8, hX8, HL.out, hn', hb8, hz8⟩
          case measure => simp [intOf]; omega
        · obtain rfl : t = [] := by cases t with
            | nil => rfl
            | cons _ _ => simp at ht1
          go_wp2_with fail
          have hO5 := hO4.alloc (.cells #[.slice a l0.length cap, .int .i64 (n' : Int), .int .i64 (e2 : Int), .int .u64 0, .slice av 1 cv] 62)
          have hR5 := hR4.alloc (.cells #[.slice a l0.length cap, .int .i64 (n' : Int), .int .i64 (e2 : Int), .int .u64 0, .slice av 1 cv] 62)
          have hX5 := hX4.alloc (.cells #[.slice a l0.length cap, .int .i64 (n' : Int), .int .i64 (e2 : Int), .int .u64 0, .slice av 1 cv] 62)
          have hx5 := Cells.new w4 #[.slice a l0.length cap, .int .i64 (n' : Int), .int .i64 (e2 : Int), .int .u64 0, .slice av 1 cv] 62
          have hb5 := hb4.alloc (by have := hb.size; omega) (.cells #[.slice a l0.length cap, .int .i64 (n' : Int), .int .i64 (e2 : Int), .int .u64 0, .slice av 1 cv] 62)
          have hz5 : w4.heap.size < (w4.alloc (.cells #[.slice a l0.length cap, .int .i64 (n' : Int), .int .i64 (e2 : Int), .int .u64 0, .slice av 1 cv] 62)).heap.size := hx5.lt
          clear hX4c0 hX4c1 hX4c2 hX4f0 hX4f1 hX4f2 hO4c0 hO4c1 hO4f0 hO4f1
          generalize (w4.alloc (.cells #[.slice a l0.length cap, .int .i64 (n' : Int), .int .i64 (e2 : Int), .int .u64 0, .slice av 1 cv] 62)) = W5 at *
          refine (hByte _ hR5).mono ?_
          rintro e6 w6 ⟨rfl, hR6, hg6⟩
          clear hByte
          have hX6 : Cells w6 w3.heap.size _ _ := (hg6.block _ (by have := hX5.lt; simpa using this) (by simp; omega)).trans hX5
          have hx6 : Cells w6 w4.heap.size _ _ := (hg6.block _ (by have := hx5.lt; simpa using this) (by simp; omega)).trans hx5
          have hb6 : Below w.heap.size w w6 := (hb5).grown hg6 (by have := hb5.size; simpa using this) (fun k hk => by cases hk; omega)
          obtain ⟨bb, off, rfl, hbb, hcell⟩ := (hvo w6 (wk.below hb6 (Nat.le_refl _))).at (j := 0) (by simp)
          have hc0 := hcell 0 (by simp)
          simp only [Nat.add_zero, List.getElem_cons_zero] at hc0
          clear hcell hvo
          have hX6c0 := hX6.cell 0 _ rfl
          have hX6f0 := hX6.frozen 0
          have hX6c1 := hX6.cell 1 _ rfl
          have hX6f1 := hX6.frozen 1
          have hX6c2 := hX6.cell 2 _ rfl
          have hX6f2 := hX6.frozen 2
          have hx6c0 := hx6.cell 0 _ rfl
          have hx6f0 := hx6.frozen 0
          have hx6c1 := hx6.cell 1 _ rfl
          have hx6f1 := hx6.frozen 1
          have hx6c2 := hx6.cell 2 _ rfl
          have hx6f2 := hx6.frozen 2
          have hx6c3 := hx6.cell 3 _ rfl
          have hx6f3 := hx6.frozen 3
          have hx6c4 := hx6.cell 4 _ rfl
          have hx6f4 := hx6.frozen 4
          go_wp2_with fail
          have hz6 := hX6.lt
          have hX7 := ((hX6.set 0 (by simp) (.slice a l0.length cap)).set 1 (by simp) (.int .i64 (n' : Int))).set 2 (by simp) (.int .i64 (e2 : Int))
          have hne : ∀ k, some w3.heap.size = some k → k ≠ g ∧ b ≠ some k := fun k hk => by cases hk; exact ⟨by omega, fun h => by have := hbo _ h; omega⟩
          have hR7 := ((hR6.kept (grownBy_setAt w6 w3.heap.size 0 (.slice a l0.length cap)) hne).kept (grownBy_setAt _ w3.heap.size 1 (.int .i64 (n' : Int))) hne).kept (grownBy_setAt _ w3.heap.size 2 (.int .i64 (e2 : Int))) hne
          have hb7 := ((hb6.setCell (p := ⟨w3.heap.size, 0, none⟩) (by exact hz3) (.slice a l0.length cap)).setCell (p := ⟨w3.heap.size, 1, none⟩) (by exact hz3) (.int .i64 (n' : Int))).setCell (p := ⟨w3.heap.size, 2, none⟩) (by exact hz3) (.int .i64 (e2 : Int))
          have hz7 : w3.heap.size < (((w6.setCell ⟨w3.heap.size, 0, none⟩ (.slice a l0.length cap)).setCell ⟨w3.heap.size, 1, none⟩ (.int .i64 (n' : Int))).setCell ⟨w3.heap.size, 2, none⟩ (.int .i64 (e2 : Int))).heap.size := hX7.lt
          clear hX6c0 hX6c1 hX6c2 hX6f0 hX6f1 hX6f2 hx6c0 hx6c1 hx6c2 hx6c3 hx6c4 hx6f0 hx6f1 hx6f2 hx6f3 hx6f4
          generalize (((w6.setCell ⟨w3.heap.size, 0, none⟩ (.slice a l0.length cap)).setCell ⟨w3.heap.size, 1, none⟩ (.int .i64 (n' : Int))).setCell ⟨w3.heap.size, 2, none⟩ (.int .i64 (e2 : Int))) = W7 at *
          have D1 : ∀ x : Under W7, x.w.cell? ⟨w3.heap.size, 1, none⟩ = some (.int .i64 (n' : Int)) := fun x => (x.below.cell (by exact hz7)).trans (hX7.cell 1 _ rfl)
          have D2 : ∀ x : Under W7, x.w.cell? ⟨w3.heap.size, 2, none⟩ = some (.int .i64 (e2 : Int)) := fun x => (x.below.cell (by exact hz7)).trans (hX7.cell 2 _ rfl)
          have hll : (lr2.length : Int) = (l0.length : Int) - (n' : Int) := by rw [hl']; simp; omega
          have hnb : ((lr2.length : Int) != (l0.length : Int) - (n' : Int)) = false := by rw [bne_eq_false_iff_eq]; exact hll
          have HL := Lib.hid hl'
          clear hll hl'
          refine wp_region_under W7 (by kernel_rfl) (by kernel_rfl) (Below.refl _ _) ?_
          repeat (go_big_quiet_step ((first
            | (go_at_call 38; exact Under.call _ ((Left_any g b lr2 e2 _ (hR7.below (Under.below _))).mono fun e w' ⟨h1, h2⟩ => ⟨h1, by rw [← h2]; exact Below.refl _ _⟩))
            | (go_at_call 39; exact Under.call _ ((Err_any g b lr2 e2 _ (hR7.below (Under.below _))).mono fun e w' ⟨h1, h2⟩ => ⟨h1, by rw [← h2]; exact Below.refl _ _⟩)))))
          refine wpQuiet_nil ?_
          rintro _ ⟨x, rfl⟩
          have hb8 := hb7.trans (x.below.mono hb7.size)
          have hR8 := hR7.below x.below
          have hX8 : Cells x.w w3.heap.size _ _ := (x.below.block _ hz7).trans hX7
          have hz8 : w3.heap.size < x.w.heap.size := hX8.lt
          clear D1 D2
          go_wp2
          go_roundw
          case rel => exact ⟨k + 1, lr2, e2, n', hkl, by go_num, hR8, hX8, HL.out, hn', hb8, hz8⟩
          case measure => simp [intOf]; omega
      · have hm6 : (kd : Int) % 6 = 1 := by omega
        have P2 := Lib.hid p2
        have P3 := Lib.hid p3
        clear h6 p2 p3
        have hv1 : BytesAt (wr.alloc (.cells #[.int .u8 (kd : Int), .int .i64 nn] 60)) (.slice a l0.length cap) l0 := (wk.below hb (Nat.le_refl _)).alloc _
        have hO1 := Cells.new wr #[.int .u8 (kd : Int), .int .i64 nn] 60
        have hR1 := hrd'.alloc (.cells #[.int .u8 (kd : Int), .int .i64 nn] 60)
        have hX1 := hX.alloc (.cells #[.int .u8 (kd : Int), .int .i64 nn] 60)
        have hb1 := hb.alloc hb.size (.cells #[.int .u8 (kd : Int), .int .i64 nn] 60)
        have hN := rNum_any _ l0 n e _ hv1 hn0 (by omega)
        rw [← HLR.out] at hN
        go_wp2_with fail
        refine hN.mono ?_
        clear hN
        rintro e4 w4 ⟨n', rfl, hl', hn', hb4'⟩
        have hR4 := hR1.below hb4'
        have hX4 : Cells w4 w3.heap.size _ _ := (hb4'.block _ (by simp; omega)).trans hX1
        have hO4 : Cells w4 wr.heap.size _ _ := (hb4'.block _ (by simp)).trans hO1
        have hb4 := hb1.trans (hb4'.mono (by have := hb.size; simp; omega))
        have hz4 : wr.heap.size < w4.heap.size := by have := hb4'.size; simp at this; omega
        unfold gotV
        clear hXc0 hXc1 hXc2 hXf0 hXf1 hXf2
        have hX4c0 := hX4.cell 0 _ rfl
        have hX4f0 := hX4.frozen 0
        have hX4c1 := hX4.cell 1 _ rfl
        have hX4f1 := hX4.frozen 1
        have hX4c2 := hX4.cell 2 _ rfl
        have hX4f2 := hX4.frozen 2
        have hO4c0 := hO4.cell 0 _ rfl
        have hO4f0 := hO4.frozen 0
        have hO4c1 := hO4.cell 1 _ rfl
        have hO4f1 := hO4.frozen 1
        have hNum := fun W' h => RNumber_any g b lr e W' h (by omega)
        generalize rdNum lr e = rn at *
        obtain ⟨N, lr2, e2⟩ := rn
        simp only at hl'
        go_wp2_with fail
        have hO5 := hO4.alloc (.cells #[.slice a l0.length cap, .int .i64 (n' : Int), .int .i64 (e2 : Int), .int .u64 (N : Int), .slice none 0 0] 62)
        have hR5 := hR4.alloc (.cells #[.slice a l0.length cap, .int .i64 (n' : Int), .int .i64 (e2 : Int), .int .u64 (N : Int), .slice none 0 0] 62)
        have hX5 := hX4.alloc (.cells #[.slice a l0.length cap, .int .i64 (n' : Int), .int .i64 (e2 : Int), .int .u64 (N : Int), .slice none 0 0] 62)
        have hx5 := Cells.new w4 #[.slice a l0.length cap, .int .i64 (n' : Int), .int .i64 (e2 : Int), .int .u64 (N : Int), .slice none 0 0] 62
        have hb5 := hb4.alloc (by have := hb.size; omega) (.cells #[.slice a l0.length cap, .int .i64 (n' : Int), .int .i64 (e2 : Int), .int .u64 (N : Int), .slice none 0 0] 62)
        have hz5 : w4.heap.size < (w4.alloc (.cells #[.slice a l0.length cap, .int .i64 (n' : Int), .int .i64 (e2 : Int), .int .u64 (N : Int), .slice none 0 0] 62)).heap.size := hx5.lt
        clear hX4c0 hX4c1 hX4c2 hX4f0 hX4f1 hX4f2 hO4c0 hO4c1 hO4f0 hO4f1
        generalize (w4.alloc (.cells #[.slice a l0.length cap, .int .i64 (n' : Int), .int .i64 (e2 : Int), .int .u64 (N : Int), .slice none 0 0] 62)) = W5 at *
        have hc5 := hx5.cell 3 _ rfl
        have hR5' : RdAt W5.drew g b lr e := hR5
        have hc5' : W5.drew.cell? ⟨w4.heap.size, 3, none⟩ = some (.int .u64 (N : Int)) := hc5
        go_region_held3 (fun w' => w'.cell? ⟨w4.heap.size, 3, none⟩ = some (.int .u64 (N : Int))) (first | exact hc5' | exact hc6) (first
          | (go_at_call 32; refine (hNum _ hR5').mono ?_; rintro e6 w6 ⟨rfl, hR6, hg6⟩; have hc6 : w6.cell? ⟨w4.heap.size, 3, none⟩ = some (.int .u64 (N : Int)) := (World.cell?_of_block (hg6.block _ hx5.lt (by simp; omega))).trans hc5'))
        clear hc5 hc5' hc6 hNum
        have hX6 : Cells w6 w3.heap.size _ _ := (hg6.block _ (by have := hX5.lt; simpa using this) (by simp; omega)).trans hX5
        have hx6 : Cells w6 w4.heap.size _ _ := (hg6.block _ (by have := hx5.lt; simpa using this) (by simp; omega)).trans hx5
        have hb6 : Below w.heap.size w w6 := (hb5.drew).grown hg6 (by have := hb5.size; simpa using this) (fun k hk => by cases hk; omega)
        have hX6c0 := hX6.cell 0 _ rfl
        have hX6f0 := hX6.frozen 0
        have hX6c1 := hX6.cell 1 _ rfl
        have hX6f1 := hX6.frozen 1
        have hX6c2 := hX6.cell 2 _ rfl
        have hX6f2 := hX6.frozen 2
        have hx6c0 := hx6.cell 0 _ rfl
        have hx6f0 := hx6.frozen 0
        have hx6c1 := hx6.cell 1 _ rfl
        have hx6f1 := hx6.frozen 1
        have hx6c2 := hx6.cell 2 _ rfl
        have hx6f2 := hx6.frozen 2
        have hx6c3 := hx6.cell 3 _ rfl
        have hx6f3 := hx6.frozen 3
        have hx6c4 := hx6.cell 4 _ rfl
        have hx6f4 := hx6.frozen 4
        go_wp2_with fail
        have hz6 := hX6.lt
        have hX7 := ((hX6.set 0 (by simp) (.slice a l0.length cap)).set 1 (by simp) (.int .i64 (n' : Int))).set 2 (by simp) (.int .i64 (e2 : Int))
        have hne : ∀ k, some w3.heap.size = some k → k ≠ g ∧ b ≠ some k := fun k hk => by cases hk; exact ⟨by omega, fun h => by have := hbo _ h; omega⟩
        have hR7 := ((hR6.kept (grownBy_setAt w6 w3.heap.size 0 (.slice a l0.length cap)) hne).kept (grownBy_setAt _ w3.heap.size 1 (.int .i64 (n' : Int))) hne).kept (grownBy_setAt _ w3.heap.size 2 (.int .i64 (e2 : Int))) hne
        have hb7 := ((hb6.setCell (p := ⟨w3.heap.size, 0, none⟩) (by exact hz3) (.slice a l0.length cap)).setCell (p := ⟨w3.heap.size, 1, none⟩) (by exact hz3) (.int .i64 (n' : Int))).setCell (p := ⟨w3.heap.size, 2, none⟩) (by exact hz3) (.int .i64 (e2 : Int))
        have hz7 : w3.heap.size < (((w6.setCell ⟨w3.heap.size, 0, none⟩ (.slice a l0.length cap)).setCell ⟨w3.heap.size, 1, none⟩ (.int .i64 (n' : Int))).setCell ⟨w3.heap.size, 2, none⟩ (.int .i64 (e2 : Int))).heap.size := hX7.lt
        clear hX6c0 hX6c1 hX6c2 hX6f0 hX6f1 hX6f2 hx6c0 hx6c1 hx6c2 hx6c3 hx6c4 hx6f0 hx6f1 hx6f2 hx6f3 hx6f4
        generalize (((w6.setCell ⟨w3.heap.size, 0, none⟩ (.slice a l0.length cap)).setCell ⟨w3.heap.size, 1, none⟩ (.int .i64 (n' : Int))).setCell ⟨w3.heap.size, 2, none⟩ (.int .i64 (e2 : Int))) = W7 at *
        have D1 : ∀ x : Under W7, x.w.cell? ⟨w3.heap.size, 1, none⟩ = some (.int .i64 (n' : Int)) := fun x => (x.below.cell (by exact hz7)).trans (hX7.cell 1 _ rfl)
        have D2 : ∀ x : Under W7, x.w.cell? ⟨w3.heap.size, 2, none⟩ = some (.int .i64 (e2 : Int)) := fun x => (x.below.cell (by exact hz7)).trans (hX7.cell 2 _ rfl)
        have hll : (lr2.length : Int) = (l0.length : Int) - (n' : Int) := by rw [hl']; simp; omega
        have hnb : ((lr2.length : Int) != (l0.length : Int) - (n' : Int)) = false := by rw [bne_eq_false_iff_eq]; exact hll
        have HL := Lib.hid hl'
        clear hll hl'
        refine wp_region_under W7 (by kernel_rfl) (by kernel_rfl) (Below.refl _ _) ?_
        repeat (go_big_quiet_step ((first
          | (go_at_call 38; exact Under.call _ ((Left_any g b lr2 e2 _ (hR7.below (Under.below _))).mono fun e w' ⟨h1, h2⟩ => ⟨h1, by rw [← h2]; exact Below.refl _ _⟩))
          | (go_at_call 39; exact Under.call _ ((Err_any g b lr2 e2 _ (hR7.below (Under.below _))).mono fun e w' ⟨h1, h2⟩ => ⟨h1, by rw [← h2]; exact Below.refl _ _⟩)))))
        refine wpQuiet_nil ?_
        rintro _ ⟨x, rfl⟩
        have hb8 := hb7.trans (x.below.mono hb7.size)
        have hR8 := hR7.below x.below
        have hX8 : Cells x.w w3.heap.size _ _ := (x.below.block _ hz7).trans hX7
        have hz8 : w3.heap.size < x.w.heap.size := hX8.lt
        clear D1 D2
        go_wp2
        go_roundw
        case rel => exact ⟨k + 1, lr2, e2, n', hkl, by go_num, hR8, hX8, HL.out, hn', hb8, hz8⟩
        case measure => simp [intOf]; omega
      · have hm6 : (kd : Int) % 6 = 2 := by omega
        have P2 := Lib.hid p2
        have P3 := Lib.hid p3
        clear h6 p2 p3
        have hv1 : BytesAt (wr.alloc (.cells #[.int .u8 (kd : Int), .int .i64 nn] 60)) (.slice a l0.length cap) l0 := (wk.below hb (Nat.le_refl _)).alloc _
        have hO1 := Cells.new wr #[.int .u8 (kd : Int), .int .i64 nn] 60
        have hR1 := hrd'.alloc (.cells #[.int .u8 (kd : Int), .int .i64 nn] 60)
        have hX1 := hX.alloc (.cells #[.int .u8 (kd : Int), .int .i64 nn] 60)
        have hb1 := hb.alloc hb.size (.cells #[.int .u8 (kd : Int), .int .i64 nn] 60)
        have hN := rTake_any _ l0 n e nn _ hv1 hn0 (by omega)
        rw [← HLR.out] at hN
        have hTk := fun W' h => RTake_any g b lr e nn W' h (by omega) P3.out
        have htl : (rdTake nn lr e).1.length ≤ 300 := Nat.le_trans (rdTake_len nn lr e) hlen
        go_wp2_with fail
        refine hN.mono ?_
        clear hN
        rintro e4 w4 ⟨n', vo, rfl, hvo, hl', hn', hb4'⟩
        have hR4 := hR1.below hb4'
        have hX4 : Cells w4 w3.heap.size _ _ := (hb4'.block _ (by simp; omega)).trans hX1
        have hO4 : Cells w4 wr.heap.size _ _ := (hb4'.block _ (by simp)).trans hO1
        have hb4 := hb1.trans (hb4'.mono (by have := hb.size; simp; omega))
        have hz4 : wr.heap.size < w4.heap.size := by have := hb4'.size; simp at this; omega
        unfold gotV
        clear hXc0 hXc1 hXc2 hXf0 hXf1 hXf2
        have hX4c0 := hX4.cell 0 _ rfl
        have hX4f0 := hX4.frozen 0
        have hX4c1 := hX4.cell 1 _ rfl
        have hX4f1 := hX4.frozen 1
        have hX4c2 := hX4.cell 2 _ rfl
        have hX4f2 := hX4.frozen 2
        have hO4c0 := hO4.cell 0 _ rfl
        have hO4f0 := hO4.frozen 0
        have hO4c1 := hO4.cell 1 _ rfl
        have hO4f1 := hO4.frozen 1
        generalize rdTake nn lr e = rt at *
        obtain ⟨t, lr2, e2⟩ := rt
        simp only at hl' hvo htl
        obtain ⟨av, nv, cv, rfl, -⟩ := (hvo w4 (wk.below hb4 (Nat.le_refl _))).shape
        go_wp2_with fail
        have hO5 := hO4.alloc (.cells #[.slice a l0.length cap, .int .i64 (n' : Int), .int .i64 (e2 : Int), .int .u64 0, .slice av nv cv] 62)
        have hR5 := hR4.alloc (.cells #[.slice a l0.length cap, .int .i64 (n' : Int), .int .i64 (e2 : Int), .int .u64 0, .slice av nv cv] 62)
        have hX5 := hX4.alloc (.cells #[.slice a l0.length cap, .int .i64 (n' : Int), .int .i64 (e2 : Int), .int .u64 0, .slice av nv cv] 62)
        have hx5 := Cells.new w4 #[.slice a l0.length cap, .int .i64 (n' : Int), .int .i64 (e2 : Int), .int .u64 0, .slice av nv cv] 62
        have hb5 := hb4.alloc (by have := hb.size; omega) (.cells #[.slice a l0.length cap, .int .i64 (n' : Int), .int .i64 (e2 : Int), .int .u64 0, .slice av nv cv] 62)
        have hz5 : w4.heap.size < (w4.alloc (.cells #[.slice a l0.length cap, .int .i64 (n' : Int), .int .i64 (e2 : Int), .int .u64 0, .slice av nv cv] 62)).heap.size := hx5.lt
        clear hX4c0 hX4c1 hX4c2 hX4f0 hX4f1 hX4f2 hO4c0 hO4c1 hO4f0 hO4f1
        generalize (w4.alloc (.cells #[.slice a l0.length cap, .int .i64 (n' : Int), .int .i64 (e2 : Int), .int .u64 0, .slice av nv cv] 62)) = W5 at *
        have hO5c0 := hO5.cell 0 _ rfl
        have hO5f0 := hO5.frozen 0
        have hO5c1 := hO5.cell 1 _ rfl
        have hO5f1 := hO5.frozen 1
        go_wp2_with fail
        refine (hTk _ hR5).mono ?_
        rintro e6 w6 ⟨out, rfl, hout, hR6, hg6⟩
        clear hTk hO5c0 hO5c1 hO5f0 hO5f1
        have hX6 : Cells w6 w3.heap.size _ _ := (hg6.block _ (by have := hX5.lt; simpa using this) (by simp; omega)).trans hX5
        have hx6 : Cells w6 w4.heap.size _ _ := (hg6.block _ (by have := hx5.lt; simpa using this) (by simp; omega)).trans hx5
        have hb6 : Below w.heap.size w w6 := (hb5).grown hg6 (by have := hb5.size; simpa using this) (fun k hk => by cases hk; omega)
        have hx6c0 := hx6.cell 0 _ rfl
        have hx6f0 := hx6.frozen 0
        have hx6c1 := hx6.cell 1 _ rfl
        have hx6f1 := hx6.frozen 1
        have hx6c2 := hx6.cell 2 _ rfl
        have hx6f2 := hx6.frozen 2
        have hx6c3 := hx6.cell 3 _ rfl
        have hx6f3 := hx6.frozen 3
        have hx6c4 := hx6.cell 4 _ rfl
        have hx6f4 := hx6.frozen 4
        have hvo6 := hvo w6 (wk.below hb6 (Nat.le_refl _))
        obtain ⟨ag, cg, rfl, -, -, -⟩ := hout.row.len
        go_wp2_with fail
        refine (Same_any _ _ t t w6 hout.row hvo6).mono ?_
        rintro e7 w7 ⟨rfl, nd, rfl⟩
        have hs : (t == t) = true := by simp
        rw [hs]
        clear hs hx6c0 hx6c1 hx6c2 hx6c3 hx6c4 hx6f0 hx6f1 hx6f2 hx6f3 hx6f4
        have hzx := hX6.lt
        have hzy := hx6.lt
        go_wp2_with fail
        go_loopw [116] (fun i w9 => ∃ (j : Nat) (l' : List UInt8), j ≤ t.length ∧ i = .int .i64 j ∧ l'.length = t.length ∧ OwnB W5.heap.size w9 (.slice ag t.length cg) l' ∧ RdAt w9 g b lr2 e2 ∧ Cells w9 w3.heap.size #[.slice a l0.length cap, .int .i64 (n : Int), .int .i64 (e : Int)] 58 ∧ Cells w9 w4.heap.size #[.slice a l0.length cap, .int .i64 (n' : Int), .int .i64 (e2 : Int), Value.int .u64 0, .slice av nv cv] 62 ∧ Below w.heap.size w w9) (fun i _ => t.length - (intOf i).toNat)
        case atStart => exact ⟨0, t, Nat.zero_le _, rfl, rfl, hout.drewN nd, (by exact hR6), hX6, hx6, hb6.trans (below_draws _ _ _)⟩
        case round =>
          clear hX6 hx6 hR6 hb6 hout
          obtain ⟨j, l', hj, rfl, hl2, hoj, hR6, hX6, hx6, hb6⟩ := hrel
          by_cases hjt : j < t.length
          · obtain ⟨g2, c2, hv2, q3, q4, hg2⟩ := hoj.shape (by intro h0; subst h0; simp at hl2; omega)
            simp only [Value.slice.injEq] at hv2
            obtain ⟨rfl, -, rfl⟩ := hv2
            have hq := hoj.cellAt j (by omega)
            have hqf := hoj.frozenAt j
            generalize hcj : l'[j]'(by omega) = cj at hq
            clear hcj
            have hst := hoj.stored j (cj + 1)
            unfold byteV at hst hq
            rw [← wrap_u8] at hst
            have hne2 : ∀ k, some g2 = some k → k ≠ g ∧ b ≠ some k := fun k hk => by cases hk; exact ⟨by omega, fun h => by have := hbo _ h; omega⟩
            have hR9 := hR6.kept (grownBy_setAt _ g2 j (.int .u8 (IntKind.u8.wrap ((cj.toNat : Int) + 1)))) hne2
            have hX9 := hX6.kept (grownBy_setAt _ g2 j (.int .u8 (IntKind.u8.wrap ((cj.toNat : Int) + 1)))) (by simp; omega)
            have hx9 := hx6.kept (grownBy_setAt _ g2 j (.int .u8 (IntKind.u8.wrap ((cj.toNat : Int) + 1)))) (by simp; omega)
            have hb9 := hb6.setCell (p := ⟨g2, j, none⟩) (by show w.heap.size ≤ g2; have := hb5.size; omega) (.int .u8 (IntKind.u8.wrap ((cj.toNat : Int) + 1)))
            clear hoj
            have hl3 : (l'.set j (cj + 1)).length = t.length := by rw [List.length_set]; exact hl2
            generalize l'.set j (cj + 1) = l3 at hst hl3
            have HL2 := Lib.hid hl2
            have HL3 := Lib.hid hl3
            clear hl2 hl3
            go_wp2
            go_roundw
            case rel => exact ⟨j + 1, l3, hjt, by go_num, HL3.out, hst, hR9, hX9, hx9, hb9⟩
            case measure => simp [intOf]; omega
          · obtain rfl : j = t.length := by omega
            clear hoj hl2
            have hX6c0 := hX6.cell 0 _ rfl
            have hX6f0 := hX6.frozen 0
            have hX6c1 := hX6.cell 1 _ rfl
            have hX6f1 := hX6.frozen 1
            have hX6c2 := hX6.cell 2 _ rfl
            have hX6f2 := hX6.frozen 2
            have hx6c0 := hx6.cell 0 _ rfl
            have hx6f0 := hx6.frozen 0
            have hx6c1 := hx6.cell 1 _ rfl
            have hx6f1 := hx6.frozen 1
            have hx6c2 := hx6.cell 2 _ rfl
            have hx6f2 := hx6.frozen 2
            have hx6c3 := hx6.cell 3 _ rfl
            have hx6f3 := hx6.frozen 3
            have hx6c4 := hx6.cell 4 _ rfl
            have hx6f4 := hx6.frozen 4
            go_wp2_with fail
            have hz6 := hX6.lt
            have hX7 := ((hX6.set 0 (by simp) (.slice a l0.length cap)).set 1 (by simp) (.int .i64 (n' : Int))).set 2 (by simp) (.int .i64 (e2 : Int))
            have hne : ∀ k, some w3.heap.size = some k → k ≠ g ∧ b ≠ some k := fun k hk => by cases hk; exact ⟨by omega, fun h => by have := hbo _ h; omega⟩
            have hR7 := ((hR6.kept (grownBy_setAt wr w3.heap.size 0 (.slice a l0.length cap)) hne).kept (grownBy_setAt _ w3.heap.size 1 (.int .i64 (n' : Int))) hne).kept (grownBy_setAt _ w3.heap.size 2 (.int .i64 (e2 : Int))) hne
            have hb7 := ((hb6.setCell (p := ⟨w3.heap.size, 0, none⟩) (by exact hz3) (.slice a l0.length cap)).setCell (p := ⟨w3.heap.size, 1, none⟩) (by exact hz3) (.int .i64 (n' : Int))).setCell (p := ⟨w3.heap.size, 2, none⟩) (by exact hz3) (.int .i64 (e2 : Int))
            have hz7 : w3.heap.size < (((wr.setCell ⟨w3.heap.size, 0, none⟩ (.slice a l0.length cap)).setCell ⟨w3.heap.size, 1, none⟩ (.int .i64 (n' : Int))).setCell ⟨w3.heap.size, 2, none⟩ (.int .i64 (e2 : Int))).heap.size := hX7.lt
            clear hX6c0 hX6c1 hX6c2 hX6f0 hX6f1 hX6f2 hx6c0 hx6c1 hx6c2 hx6c3 hx6c4 hx6f0 hx6f1 hx6f2 hx6f3 hx6f4
            generalize (((wr.setCell ⟨w3.heap.size, 0, none⟩ (.slice a l0.length cap)).setCell ⟨w3.heap.size, 1, none⟩ (.int .i64 (n' : Int))).setCell ⟨w3.heap.size, 2, none⟩ (.int .i64 (e2 : Int))) = W7 at *
            have D1 : ∀ x : Under W7, x.w.cell? ⟨w3.heap.size, 1, none⟩ = some (.int .i64 (n' : Int)) := fun x => (x.below.cell (by exact hz7)).trans (hX7.cell 1 _ rfl)
            have D2 : ∀ x : Under W7, x.w.cell? ⟨w3.heap.size, 2, none⟩ = some (.int .i64 (e2 : Int)) := fun x => (x.below.cell (by exact hz7)).trans (hX7.cell 2 _ rfl)
            have hll : (lr2.length : Int) = (l0.length : Int) - (n' : Int) := by rw [hl']; simp; omega
            have hnb : ((lr2.length : Int) != (l0.length : Int) - (n' : Int)) = false := by rw [bne_eq_false_iff_eq]; exact hll
            have HL := Lib.hid hl'
            clear hll hl'
            refine wp_region_under W7 (by kernel_rfl) (by kernel_rfl) (Below.refl _ _) ?_
            repeat (go_big_quiet_step ((first
              | (go_at_call 38; exact Under.call _ ((Left_any g b lr2 e2 _ (hR7.below (Under.below _))).mono fun e w' ⟨h1, h2⟩ => ⟨h1, by rw [← h2]; exact Below.refl _ _⟩))
              | (go_at_call 39; exact Under.call _ ((Err_any g b lr2 e2 _ (hR7.below (Under.below _))).mono fun e w' ⟨h1, h2⟩ => ⟨h1, by rw [← h2]; exact Below.refl _ _⟩)))))
            refine wpQuiet_nil ?_
            rintro _ ⟨x, rfl⟩
            have hb8 := hb7.trans (x.below.mono hb7.size)
            have hR8 := hR7.below x.below
            have hX8 : Cells x.w w3.heap.size _ _ := (x.below.block _ hz7).trans hX7
            have hz8 : w3.heap.size < x.w.heap.size := hX8.lt
            clear D1 D2
            go_wp2
            go_roundw
            case rel => exact ⟨k + 1, lr2, e2, n', hkl, by go_num, hR8, hX8, HL.out, hn', hb8, hz8⟩
            case measure => simp [intOf]; omega
      · have hm6 : (kd : Int) % 6 = 3 := by omega
        have P2 := Lib.hid p2
        have P3 := Lib.hid p3
        clear h6 p2 p3
        have hv1 : BytesAt (wr.alloc (.cells #[.int .u8 (kd : Int), .int .i64 nn] 60)) (.slice a l0.length cap) l0 := (wk.below hb (Nat.le_refl _)).alloc _
        have hO1 := Cells.new wr #[.int .u8 (kd : Int), .int .i64 nn] 60
        have hR1 := hrd'.alloc (.cells #[.int .u8 (kd : Int), .int .i64 nn] 60)
        have hX1 := hX.alloc (.cells #[.int .u8 (kd : Int), .int .i64 nn] 60)
        have hb1 := hb.alloc hb.size (.cells #[.int .u8 (kd : Int), .int .i64 nn] 60)
        have hN := rFrame_any _ l0 n e nn _ hv1 hn0 (by omega) P3.out
        rw [← HLR.out] at hN
        have hFr := fun W' h => RFrame_any g b lr e nn W' h (by omega) P3.out
        go_wp2_with fail
        refine hN.mono ?_
        clear hN
        rintro e4 w4 ⟨n', N', vo, rfl, hvo, hl', hn', hb4'⟩
        have hR4 := hR1.below hb4'
        have hX4 : Cells w4 w3.heap.size _ _ := (hb4'.block _ (by simp; omega)).trans hX1
        have hO4 : Cells w4 wr.heap.size _ _ := (hb4'.block _ (by simp)).trans hO1
        have hb4 := hb1.trans (hb4'.mono (by have := hb.size; simp; omega))
        have hz4 : wr.heap.size < w4.heap.size := by have := hb4'.size; simp at this; omega
        unfold gotV
        clear hXc0 hXc1 hXc2 hXf0 hXf1 hXf2
        have hX4c0 := hX4.cell 0 _ rfl
        have hX4f0 := hX4.frozen 0
        have hX4c1 := hX4.cell 1 _ rfl
        have hX4f1 := hX4.frozen 1
        have hX4c2 := hX4.cell 2 _ rfl
        have hX4f2 := hX4.frozen 2
        have hO4c0 := hO4.cell 0 _ rfl
        have hO4f0 := hO4.frozen 0
        have hO4c1 := hO4.cell 1 _ rfl
        have hO4f1 := hO4.frozen 1
        generalize rdFrame nn lr e = rt at *
        obtain ⟨t, lr2, e2⟩ := rt
        simp only at hl' hvo
        obtain ⟨av, nv, cv, rfl, -⟩ := (hvo w4 (wk.below hb4 (Nat.le_refl _))).shape
        go_wp2_with fail
        have hO5 := hO4.alloc (.cells #[.slice a l0.length cap, .int .i64 (n' : Int), .int .i64 (e2 : Int), .int .u64 (N' : Int), .slice av nv cv] 62)
        have hR5 := hR4.alloc (.cells #[.slice a l0.length cap, .int .i64 (n' : Int), .int .i64 (e2 : Int), .int .u64 (N' : Int), .slice av nv cv] 62)
        have hX5 := hX4.alloc (.cells #[.slice a l0.length cap, .int .i64 (n' : Int), .int .i64 (e2 : Int), .int .u64 (N' : Int), .slice av nv cv] 62)
        have hx5 := Cells.new w4 #[.slice a l0.length cap, .int .i64 (n' : Int), .int .i64 (e2 : Int), .int .u64 (N' : Int), .slice av nv cv] 62
        have hb5 := hb4.alloc (by have := hb.size; omega) (.cells #[.slice a l0.length cap, .int .i64 (n' : Int), .int .i64 (e2 : Int), .int .u64 (N' : Int), .slice av nv cv] 62)
        have hz5 : w4.heap.size < (w4.alloc (.cells #[.slice a l0.length cap, .int .i64 (n' : Int), .int .i64 (e2 : Int), .int .u64 (N' : Int), .slice av nv cv] 62)).heap.size := hx5.lt
        clear hX4c0 hX4c1 hX4c2 hX4f0 hX4f1 hX4f2 hO4c0 hO4c1 hO4f0 hO4f1
        generalize (w4.alloc (.cells #[.slice a l0.length cap, .int .i64 (n' : Int), .int .i64 (e2 : Int), .int .u64 (N' : Int), .slice av nv cv] 62)) = W5 at *
        have hc5 : W5.drew.cell? ⟨w4.heap.size, 4, none⟩ = some (.slice av nv cv) := hx5.cell 4 _ rfl
        have hd5 : W5.drew.cell? ⟨wr.heap.size, 1, none⟩ = some (.int .i64 nn) := hO5.cell 1 _ rfl
        have hR5' : RdAt W5.drew g b lr e := hR5
        go_region_held3 (fun w' => w'.cell? ⟨w4.heap.size, 4, none⟩ = some (.slice av nv cv) ∧ w'.cell? ⟨wr.heap.size, 1, none⟩ = some (.int .i64 nn)) (first | exact ⟨hc5, hd5⟩ | exact ⟨hc6, hd6⟩ | exact ⟨hc7, hd7⟩) (first
          | (go_at_call 15; refine (Same_any _ _ t t _ hout.row hvo6).mono ?_; rintro e7 w7 ⟨rfl, nd, rfl⟩; have hc7 : (w6.drewN nd).cell? ⟨w4.heap.size, 4, none⟩ = some (.slice av nv cv) := hc6; have hd7 : (w6.drewN nd).cell? ⟨wr.heap.size, 1, none⟩ = some (.int .i64 nn) := hd6)
          | (go_at_call 35; refine (hFr _ hR5').mono ?_; rintro e6 w6 ⟨out, rfl, hout, hR6, hg6⟩; have hc6 : w6.cell? ⟨w4.heap.size, 4, none⟩ = some (.slice av nv cv) := (World.cell?_of_block (hg6.block _ hx5.lt (by simp; omega))).trans hc5; have hd6 : w6.cell? ⟨wr.heap.size, 1, none⟩ = some (.int .i64 nn) := (World.cell?_of_block (hg6.block _ hO5.lt (by simp; omega))).trans hd5; have hvo6 := hvo w6 (wk.below ((hb5.drew).grown hg6 (by have := hb5.size; simpa using this) (fun k hk => by cases hk; omega)) (Nat.le_refl _))))
        clear hc5 hc6 hc7 hd5 hd6 hd7 hFr
        have hX6 : Cells w6 w3.heap.size _ _ := (hg6.block _ (by have := hX5.lt; simpa using this) (by simp; omega)).trans hX5
        have hx6 : Cells w6 w4.heap.size _ _ := (hg6.block _ (by have := hx5.lt; simpa using this) (by simp; omega)).trans hx5
        have hb6 : Below w.heap.size w w6 := (hb5.drew).grown hg6 (by have := hb5.size; simpa using this) (fun k hk => by cases hk; omega)
        have hX9 : Cells (w6.drewN nd) w3.heap.size _ _ := hX6
        have hx9 : Cells (w6.drewN nd) w4.heap.size _ _ := hx6
        have hR9 : RdAt (w6.drewN nd) g b lr2 e2 := hR6
        have hb9 := hb6.trans (below_draws _ w6 nd)
        clear hX6 hx6 hR6 hb6 hvo6 hout hg6
        generalize w6.drewN nd = w9 at *
        have hX6 := hX9
        have hx6 := hx9
        have hR6 := hR9
        have hb6 := hb9
        have hX6c0 := hX6.cell 0 _ rfl
        have hX6f0 := hX6.frozen 0
        have hX6c1 := hX6.cell 1 _ rfl
        have hX6f1 := hX6.frozen 1
        have hX6c2 := hX6.cell 2 _ rfl
        have hX6f2 := hX6.frozen 2
        have hx6c0 := hx6.cell 0 _ rfl
        have hx6f0 := hx6.frozen 0
        have hx6c1 := hx6.cell 1 _ rfl
        have hx6f1 := hx6.frozen 1
        have hx6c2 := hx6.cell 2 _ rfl
        have hx6f2 := hx6.frozen 2
        have hx6c3 := hx6.cell 3 _ rfl
        have hx6f3 := hx6.frozen 3
        have hx6c4 := hx6.cell 4 _ rfl
        have hx6f4 := hx6.frozen 4
        go_wp2_with fail
        have hz6 := hX6.lt
        have hX7 := ((hX6.set 0 (by simp) (.slice a l0.length cap)).set 1 (by simp) (.int .i64 (n' : Int))).set 2 (by simp) (.int .i64 (e2 : Int))
        have hne : ∀ k, some w3.heap.size = some k → k ≠ g ∧ b ≠ some k := fun k hk => by cases hk; exact ⟨by omega, fun h => by have := hbo _ h; omega⟩
        have hR7 := ((hR6.kept (grownBy_setAt w9 w3.heap.size 0 (.slice a l0.length cap)) hne).kept (grownBy_setAt _ w3.heap.size 1 (.int .i64 (n' : Int))) hne).kept (grownBy_setAt _ w3.heap.size 2 (.int .i64 (e2 : Int))) hne
        have hb7 := ((hb6.setCell (p := ⟨w3.heap.size, 0, none⟩) (by exact hz3) (.slice a l0.length cap)).setCell (p := ⟨w3.heap.size, 1, none⟩) (by exact hz3) (.int .i64 (n' : Int))).setCell (p := ⟨w3.heap.size, 2, none⟩) (by exact hz3) (.int .i64 (e2 : Int))
        have hz7 : w3.heap.size < (((w9.setCell ⟨w3.heap.size, 0, none⟩ (.slice a l0.length cap)).setCell ⟨w3.heap.size, 1, none⟩ (.int .i64 (n' : Int))).setCell ⟨w3.heap.size, 2, none⟩ (.int .i64 (e2 : Int))).heap.size := hX7.lt
        clear hX6c0 hX6c1 hX6c2 hX6f0 hX6f1 hX6f2 hx6c0 hx6c1 hx6c2 hx6c3 hx6c4 hx6f0 hx6f1 hx6f2 hx6f3 hx6f4
        generalize (((w9.setCell ⟨w3.heap.size, 0, none⟩ (.slice a l0.length cap)).setCell ⟨w3.heap.size, 1, none⟩ (.int .i64 (n' : Int))).setCell ⟨w3.heap.size, 2, none⟩ (.int .i64 (e2 : Int))) = W7 at *
        have D1 : ∀ x : Under W7, x.w.cell? ⟨w3.heap.size, 1, none⟩ = some (.int .i64 (n' : Int)) := fun x => (x.below.cell (by exact hz7)).trans (hX7.cell 1 _ rfl)
        have D2 : ∀ x : Under W7, x.w.cell? ⟨w3.heap.size, 2, none⟩ = some (.int .i64 (e2 : Int)) := fun x => (x.below.cell (by exact hz7)).trans (hX7.cell 2 _ rfl)
        have hll : (lr2.length : Int) = (l0.length : Int) - (n' : Int) := by rw [hl']; simp; omega
        have hnb : ((lr2.length : Int) != (l0.length : Int) - (n' : Int)) = false := by rw [bne_eq_false_iff_eq]; exact hll
        have HL := Lib.hid hl'
        clear hll hl'
        refine wp_region_under W7 (by kernel_rfl) (by kernel_rfl) (Below.refl _ _) ?_
        repeat (go_big_quiet_step ((first
          | (go_at_call 38; exact Under.call _ ((Left_any g b lr2 e2 _ (hR7.below (Under.below _))).mono fun e w' ⟨h1, h2⟩ => ⟨h1, by rw [← h2]; exact Below.refl _ _⟩))
          | (go_at_call 39; exact Under.call _ ((Err_any g b lr2 e2 _ (hR7.below (Under.below _))).mono fun e w' ⟨h1, h2⟩ => ⟨h1, by rw [← h2]; exact Below.refl _ _⟩)))))
        refine wpQuiet_nil ?_
        rintro _ ⟨x, rfl⟩
        have hb8 := hb7.trans (x.below.mono hb7.size)
        have hR8 := hR7.below x.below
        have hX8 : Cells x.w w3.heap.size _ _ := (x.below.block _ hz7).trans hX7
        have hz8 : w3.heap.size < x.w.heap.size := hX8.lt
        clear D1 D2
        go_wp2
        go_roundw
        case rel => exact ⟨k + 1, lr2, e2, n', hkl, by go_num, hR8, hX8, HL.out, hn', hb8, hz8⟩
        case measure => simp [intOf]; omega
      · have hm6 : (kd : Int) % 6 = 4 := by omega
        have P2 := Lib.hid p2
        have P3 := Lib.hid p3
        clear h6 p2 p3
        have hv1 : BytesAt (wr.alloc (.cells #[.int .u8 (kd : Int), .int .i64 nn] 60)) (.slice a l0.length cap) l0 := (wk.below hb (Nat.le_refl _)).alloc _
        have hO1 := Cells.new wr #[.int .u8 (kd : Int), .int .i64 nn] 60
        have hR1 := hrd'.alloc (.cells #[.int .u8 (kd : Int), .int .i64 nn] 60)
        have hX1 := hX.alloc (.cells #[.int .u8 (kd : Int), .int .i64 nn] 60)
        have hb1 := hb.alloc hb.size (.cells #[.int .u8 (kd : Int), .int .i64 nn] 60)
        have hN := rFrame_any _ l0 n e 1048576 _ hv1 hn0 (by omega) (by decide)
        rw [← HLR.out] at hN
        have hTx := fun W' h => RText_any g b lr e W' h (by omega)
        go_wp2_with fail
        refine hN.mono ?_
        clear hN
        rintro e4 w4 ⟨n', N', vo, rfl, hvo, hl', hn', hb4'⟩
        have hR4 := hR1.below hb4'
        have hX4 : Cells w4 w3.heap.size _ _ := (hb4'.block _ (by simp; omega)).trans hX1
        have hO4 : Cells w4 wr.heap.size _ _ := (hb4'.block _ (by simp)).trans hO1
        have hb4 := hb1.trans (hb4'.mono (by have := hb.size; simp; omega))
        have hz4 : wr.heap.size < w4.heap.size := by have := hb4'.size; simp at this; omega
        unfold gotV
        clear hXc0 hXc1 hXc2 hXf0 hXf1 hXf2
        have hX4c0 := hX4.cell 0 _ rfl
        have hX4f0 := hX4.frozen 0
        have hX4c1 := hX4.cell 1 _ rfl
        have hX4f1 := hX4.frozen 1
        have hX4c2 := hX4.cell 2 _ rfl
        have hX4f2 := hX4.frozen 2
        have hO4c0 := hO4.cell 0 _ rfl
        have hO4f0 := hO4.frozen 0
        have hO4c1 := hO4.cell 1 _ rfl
        have hO4f1 := hO4.frozen 1
        generalize rdFrame 1048576 lr e = rt at *
        obtain ⟨t, lr2, e2⟩ := rt
        simp only at hl' hvo
        obtain ⟨av, nv, cv, rfl, -⟩ := (hvo w4 (wk.below hb4 (Nat.le_refl _))).shape
        go_wp2_with fail
        have hO5 := hO4.alloc (.cells #[.slice a l0.length cap, .int .i64 (n' : Int), .int .i64 (e2 : Int), .int .u64 (N' : Int), .slice av nv cv] 62)
        have hR5 := hR4.alloc (.cells #[.slice a l0.length cap, .int .i64 (n' : Int), .int .i64 (e2 : Int), .int .u64 (N' : Int), .slice av nv cv] 62)
        have hX5 := hX4.alloc (.cells #[.slice a l0.length cap, .int .i64 (n' : Int), .int .i64 (e2 : Int), .int .u64 (N' : Int), .slice av nv cv] 62)
        have hx5 := Cells.new w4 #[.slice a l0.length cap, .int .i64 (n' : Int), .int .i64 (e2 : Int), .int .u64 (N' : Int), .slice av nv cv] 62
        have hb5 := hb4.alloc (by have := hb.size; omega) (.cells #[.slice a l0.length cap, .int .i64 (n' : Int), .int .i64 (e2 : Int), .int .u64 (N' : Int), .slice av nv cv] 62)
        have hz5 : w4.heap.size < (w4.alloc (.cells #[.slice a l0.length cap, .int .i64 (n' : Int), .int .i64 (e2 : Int), .int .u64 (N' : Int), .slice av nv cv] 62)).heap.size := hx5.lt
        clear hX4c0 hX4c1 hX4c2 hX4f0 hX4f1 hX4f2 hO4c0 hO4c1 hO4f0 hO4f1
        generalize (w4.alloc (.cells #[.slice a l0.length cap, .int .i64 (n' : Int), .int .i64 (e2 : Int), .int .u64 (N' : Int), .slice av nv cv] 62)) = W5 at *
        have hc5 : W5.drew.cell? ⟨w4.heap.size, 4, none⟩ = some (.slice av nv cv) := hx5.cell 4 _ rfl
        have hv5 := conv_row (hvo W5.drew (wk.below hb5.drew (Nat.le_refl _)))
        have hR5' : RdAt W5.drew g b lr e := hR5
        go_region_held3 (fun w' => w'.cell? ⟨w4.heap.size, 4, none⟩ = some (.slice av nv cv) ∧ (convert 22 9 (.slice av nv cv)).run Try.prog w' = .ok (.string ⟨t.toArray⟩) w') (first | exact ⟨hc5, hv5⟩ | exact ⟨hc6, hv6⟩) (first
          | (go_at_call 36; refine (hTx _ hR5').mono ?_; rintro e6 w6 ⟨rfl, hR6, hg6⟩; have hc6 : w6.cell? ⟨w4.heap.size, 4, none⟩ = some (.slice av nv cv) := (World.cell?_of_block (hg6.block _ hx5.lt (by simp; omega))).trans hc5; have hv6 := conv_row (hvo w6 (wk.below ((hb5.drew).grown hg6 (by have := hb5.size; simpa using this) (fun k hk => by cases hk; omega)) (Nat.le_refl _)))))
        clear hc5 hv5 hc6 hv6 hTx
        have hX6 : Cells w6 w3.heap.size _ _ := (hg6.block _ (by have := hX5.lt; simpa using this) (by simp; omega)).trans hX5
        have hx6 : Cells w6 w4.heap.size _ _ := (hg6.block _ (by have := hx5.lt; simpa using this) (by simp; omega)).trans hx5
        have hb6 : Below w.heap.size w w6 := (hb5.drew).grown hg6 (by have := hb5.size; simpa using this) (fun k hk => by cases hk; omega)
        have hX6c0 := hX6.cell 0 _ rfl
        have hX6f0 := hX6.frozen 0
        have hX6c1 := hX6.cell 1 _ rfl
        have hX6f1 := hX6.frozen 1
        have hX6c2 := hX6.cell 2 _ rfl
        have hX6f2 := hX6.frozen 2
        have hx6c0 := hx6.cell 0 _ rfl
        have hx6f0 := hx6.frozen 0
        have hx6c1 := hx6.cell 1 _ rfl
        have hx6f1 := hx6.frozen 1
        have hx6c2 := hx6.cell 2 _ rfl
        have hx6f2 := hx6.frozen 2
        have hx6c3 := hx6.cell 3 _ rfl
        have hx6f3 := hx6.frozen 3
        have hx6c4 := hx6.cell 4 _ rfl
        have hx6f4 := hx6.frozen 4
        go_wp2_with fail
        have hz6 := hX6.lt
        have hX7 := ((hX6.set 0 (by simp) (.slice a l0.length cap)).set 1 (by simp) (.int .i64 (n' : Int))).set 2 (by simp) (.int .i64 (e2 : Int))
        have hne : ∀ k, some w3.heap.size = some k → k ≠ g ∧ b ≠ some k := fun k hk => by cases hk; exact ⟨by omega, fun h => by have := hbo _ h; omega⟩
        have hR7 := ((hR6.kept (grownBy_setAt w6 w3.heap.size 0 (.slice a l0.length cap)) hne).kept (grownBy_setAt _ w3.heap.size 1 (.int .i64 (n' : Int))) hne).kept (grownBy_setAt _ w3.heap.size 2 (.int .i64 (e2 : Int))) hne
        have hb7 := ((hb6.setCell (p := ⟨w3.heap.size, 0, none⟩) (by exact hz3) (.slice a l0.length cap)).setCell (p := ⟨w3.heap.size, 1, none⟩) (by exact hz3) (.int .i64 (n' : Int))).setCell (p := ⟨w3.heap.size, 2, none⟩) (by exact hz3) (.int .i64 (e2 : Int))
        have hz7 : w3.heap.size < (((w6.setCell ⟨w3.heap.size, 0, none⟩ (.slice a l0.length cap)).setCell ⟨w3.heap.size, 1, none⟩ (.int .i64 (n' : Int))).setCell ⟨w3.heap.size, 2, none⟩ (.int .i64 (e2 : Int))).heap.size := hX7.lt
        clear hX6c0 hX6c1 hX6c2 hX6f0 hX6f1 hX6f2 hx6c0 hx6c1 hx6c2 hx6c3 hx6c4 hx6f0 hx6f1 hx6f2 hx6f3 hx6f4
        generalize (((w6.setCell ⟨w3.heap.size, 0, none⟩ (.slice a l0.length cap)).setCell ⟨w3.heap.size, 1, none⟩ (.int .i64 (n' : Int))).setCell ⟨w3.heap.size, 2, none⟩ (.int .i64 (e2 : Int))) = W7 at *
        have D1 : ∀ x : Under W7, x.w.cell? ⟨w3.heap.size, 1, none⟩ = some (.int .i64 (n' : Int)) := fun x => (x.below.cell (by exact hz7)).trans (hX7.cell 1 _ rfl)
        have D2 : ∀ x : Under W7, x.w.cell? ⟨w3.heap.size, 2, none⟩ = some (.int .i64 (e2 : Int)) := fun x => (x.below.cell (by exact hz7)).trans (hX7.cell 2 _ rfl)
        have hll : (lr2.length : Int) = (l0.length : Int) - (n' : Int) := by rw [hl']; simp; omega
        have hnb : ((lr2.length : Int) != (l0.length : Int) - (n' : Int)) = false := by rw [bne_eq_false_iff_eq]; exact hll
        have HL := Lib.hid hl'
        clear hll hl'
        refine wp_region_under W7 (by kernel_rfl) (by kernel_rfl) (Below.refl _ _) ?_
        repeat (go_big_quiet_step ((first
          | (go_at_call 38; exact Under.call _ ((Left_any g b lr2 e2 _ (hR7.below (Under.below _))).mono fun e w' ⟨h1, h2⟩ => ⟨h1, by rw [← h2]; exact Below.refl _ _⟩))
          | (go_at_call 39; exact Under.call _ ((Err_any g b lr2 e2 _ (hR7.below (Under.below _))).mono fun e w' ⟨h1, h2⟩ => ⟨h1, by rw [← h2]; exact Below.refl _ _⟩)))))
        refine wpQuiet_nil ?_
        rintro _ ⟨x, rfl⟩
        have hb8 := hb7.trans (x.below.mono hb7.size)
        have hR8 := hR7.below x.below
        have hX8 : Cells x.w w3.heap.size _ _ := (x.below.block _ hz7).trans hX7
        have hz8 : w3.heap.size < x.w.heap.size := hX8.lt
        clear D1 D2
        go_wp2
        go_roundw
        case rel => exact ⟨k + 1, lr2, e2, n', hkl, by go_num, hR8, hX8, HL.out, hn', hb8, hz8⟩
        case measure => simp [intOf]; omega
      · have hm6 : (kd : Int) % 6 = 5 := by omega
        have hE := fun W' h => REnd_any g b lr e W' h
        have hll := congrArg List.length HLR.out
        rw [List.length_drop] at hll
        have P2 := Lib.hid p2
        have P3 := Lib.hid p3
        clear h6 p2 p3
        have hv1 : BytesAt (wr.alloc (.cells #[.int .u8 (kd : Int), .int .i64 nn] 60)) (.slice a l0.length cap) l0 := (wk.below hb (Nat.le_refl _)).alloc _
        have hO1 := Cells.new wr #[.int .u8 (kd : Int), .int .i64 nn] 60
        have hR1 := hrd'.alloc (.cells #[.int .u8 (kd : Int), .int .i64 nn] 60)
        have hX1 := hX.alloc (.cells #[.int .u8 (kd : Int), .int .i64 nn] 60)
        have hb1 := hb.alloc hb.size (.cells #[.int .u8 (kd : Int), .int .i64 nn] 60)
        have hz7 := hX1.lt
        have hb7 := hb1
        have hl' := HLR.out
        have hn' := hn0
        unfold rdEnd at hE
        by_cases he : e = 0
        · subst he
          by_cases hlr : lr = []
          · have hnn : ¬ n < l0.length := by rw [hlr] at hll; simp at hll; omega
            have hnd : decide ((n : Int) < (l0.length : Int)) = false := by simp; omega
            simp only [ne_eq, not_true_eq_false, if_false, if_pos hlr] at hE
            have HLr := Lib.hid hlr
            clear hlr hll hl'
            go_wp2_with fail
            refine (hE _ hR1).mono ?_
            rintro e6 w6 ⟨rfl, rfl⟩
            clear hE
            go_wp2_with fail
            have hR7 := hR1
            have hX7 := hX1
            clear hR1 hX1 hb1 hv1 hO1
            generalize (wr.alloc (.cells #[.int .u8 (kd : Int), .int .i64 nn] 60)) = W7 at *
            have hl' := HLR.out
            have D1 : ∀ x : Under W7, x.w.cell? ⟨w3.heap.size, 1, none⟩ = some (.int .i64 (n : Int)) := fun x => (x.below.cell (by exact hz7)).trans (hX7.cell 1 _ rfl)
            have D2 : ∀ x : Under W7, x.w.cell? ⟨w3.heap.size, 2, none⟩ = some (.int .i64 (0 : Int)) := fun x => (x.below.cell (by exact hz7)).trans (hX7.cell 2 _ rfl)
            have hll : (lr.length : Int) = (l0.length : Int) - (n : Int) := by rw [hl']; simp; omega
            have hnb : ((lr.length : Int) != (l0.length : Int) - (n : Int)) = false := by rw [bne_eq_false_iff_eq]; exact hll
            have HL := Lib.hid hl'
            clear hll hl'
            refine wp_region_under W7 (by kernel_rfl) (by kernel_rfl) (Below.refl _ _) ?_
            repeat (go_big_quiet_step ((first
              | (go_at_call 38; exact Under.call _ ((Left_any g b lr 0 _ (hR7.below (Under.below _))).mono fun e w' ⟨h1, h2⟩ => ⟨h1, by rw [← h2]; exact Below.refl _ _⟩))
              | (go_at_call 39; exact Under.call _ ((Err_any g b lr 0 _ (hR7.below (Under.below _))).mono fun e w' ⟨h1, h2⟩ => ⟨h1, by rw [← h2]; exact Below.refl _ _⟩)))))
            refine wpQuiet_nil ?_
            rintro _ ⟨x, rfl⟩
            have hb8 := hb7.trans (x.below.mono hb7.size)
            have hR8 := hR7.below x.below
            have hX8 : Cells x.w w3.heap.size _ _ := (x.below.block _ hz7).trans hX7
            have hz8 : w3.heap.size < x.w.heap.size := hX8.lt
            clear D1 D2
            go_wp2
            go_roundw
            case rel => exact ⟨k + 1, lr, 0, n, hkl, by go_num, hR8, hX8, HL.out, hn', hb8, hz8⟩
            case measure => simp [intOf]; omega
          · have hnn : n < l0.length := by have := List.length_pos_iff.2 hlr; omega
            simp only [ne_eq, not_true_eq_false, if_false, if_neg hlr] at hE
            clear hlr hll hl'
            go_wp2_with fail
            refine (hE _ hR1).mono ?_
            rintro e6 w6 ⟨rfl, rfl⟩
            clear hE
            go_wp2_with fail
            have hR7 := hR1
            have hX7 := hX1
            clear hR1 hX1 hb1 hv1 hO1
            generalize (wr.alloc (.cells #[.int .u8 (kd : Int), .int .i64 nn] 60)) = W7 at *
            have hl' := HLR.out
            have D1 : ∀ x : Under W7, x.w.cell? ⟨w3.heap.size, 1, none⟩ = some (.int .i64 (n : Int)) := fun x => (x.below.cell (by exact hz7)).trans (hX7.cell 1 _ rfl)
            have D2 : ∀ x : Under W7, x.w.cell? ⟨w3.heap.size, 2, none⟩ = some (.int .i64 (0 : Int)) := fun x => (x.below.cell (by exact hz7)).trans (hX7.cell 2 _ rfl)
            have hll : (lr.length : Int) = (l0.length : Int) - (n : Int) := by rw [hl']; simp; omega
            have hnb : ((lr.length : Int) != (l0.length : Int) - (n : Int)) = false := by rw [bne_eq_false_iff_eq]; exact hll
            have HL := Lib.hid hl'
            clear hll hl'
            refine wp_region_under W7 (by kernel_rfl) (by kernel_rfl) (Below.refl _ _) ?_
            repeat (go_big_quiet_step ((first
              | (go_at_call 38; exact Under.call _ ((Left_any g b lr 0 _ (hR7.below (Under.below _))).mono fun e w' ⟨h1, h2⟩ => ⟨h1, by rw [← h2]; exact Below.refl _ _⟩))
              | (go_at_call 39; exact Under.call _ ((Err_any g b lr 0 _ (hR7.below (Under.below _))).mono fun e w' ⟨h1, h2⟩ => ⟨h1, by rw [← h2]; exact Below.refl _ _⟩)))))
            refine wpQuiet_nil ?_
            rintro _ ⟨x, rfl⟩
            have hb8 := hb7.trans (x.below.mono hb7.size)
            have hR8 := hR7.below x.below
            have hX8 : Cells x.w w3.heap.size _ _ := (x.below.block _ hz7).trans hX7
            have hz8 : w3.heap.size < x.w.heap.size := hX8.lt
            clear D1 D2
            go_wp2
            go_roundw
            case rel => exact ⟨k + 1, lr, 0, n, hkl, by go_num, hR8, hX8, HL.out, hn', hb8, hz8⟩
            case measure => simp [intOf]; omega
        · simp only [ne_eq, if_pos he] at hE
          have hbx : ((e : Int) == 0) = false := by rw [beq_eq_false_iff_ne]; omega
          have HE := Lib.hid he
          clear hll hl' he
          go_wp2_with fail
          refine (hE _ hR1).mono ?_
          rintro e6 w6 ⟨rfl, rfl⟩
          clear hE
          go_wp2_with fail
          have hR7 := hR1
          have hX7 := hX1
          clear hR1 hX1 hb1 hv1 hO1
          generalize (wr.alloc (.cells #[.int .u8 (kd : Int), .int .i64 nn] 60)) = W7 at *
          have hl' := HLR.out
          have D1 : ∀ x : Under W7, x.w.cell? ⟨w3.heap.size, 1, none⟩ = some (.int .i64 (n : Int)) := fun x => (x.below.cell (by exact hz7)).trans (hX7.cell 1 _ rfl)
          have D2 : ∀ x : Under W7, x.w.cell? ⟨w3.heap.size, 2, none⟩ = some (.int .i64 (e : Int)) := fun x => (x.below.cell (by exact hz7)).trans (hX7.cell 2 _ rfl)
          have hll : (lr.length : Int) = (l0.length : Int) - (n : Int) := by rw [hl']; simp; omega
          have hnb : ((lr.length : Int) != (l0.length : Int) - (n : Int)) = false := by rw [bne_eq_false_iff_eq]; exact hll
          have HL := Lib.hid hl'
          clear hll hl'
          refine wp_region_under W7 (by kernel_rfl) (by kernel_rfl) (Below.refl _ _) ?_
          repeat (go_big_quiet_step ((first
            | (go_at_call 38; exact Under.call _ ((Left_any g b lr e _ (hR7.below (Under.below _))).mono fun e w' ⟨h1, h2⟩ => ⟨h1, by rw [← h2]; exact Below.refl _ _⟩))
            | (go_at_call 39; exact Under.call _ ((Err_any g b lr e _ (hR7.below (Under.below _))).mono fun e w' ⟨h1, h2⟩ => ⟨h1, by rw [← h2]; exact Below.refl _ _⟩)))))
          refine wpQuiet_nil ?_
          rintro _ ⟨x, rfl⟩
          have hb8 := hb7.trans (x.below.mono hb7.size)
          have hR8 := hR7.below x.below
          have hX8 : Cells x.w w3.heap.size _ _ := (x.below.block _ hz7).trans hX7
          have hz8 : w3.heap.size < x.w.heap.size := hX8.lt
          clear D1 D2
          go_wp2
          go_roundw
          case rel => exact ⟨k + 1, lr, e, n, hkl, by go_num, hR8, hX8, HL.out, hn', hb8, hz8⟩
          case measure => simp [intOf]; omega
    · obtain rfl : k = l1.length := by omega
      go_wp2
      go_ret
      exact ⟨rfl, hb⟩
end Go.Proofs.Ytoccanppfdeggaa
