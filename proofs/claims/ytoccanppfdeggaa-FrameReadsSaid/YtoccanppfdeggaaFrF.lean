/- The walk of the reference's Split (layer 5). -/
import Derived.Test.YtoccanppfdeggaaFrE
import Derived.Test.YtoccanppfdeggaaFrD
namespace Go.Proofs.Ytoccanppfdeggaa
open Go.RowKit Go.Tab

/-- What reads wherever v reads. -/
abbrev Of (v : Value) (l : List UInt8) : List Sl → List (List UInt8) → Prop := Rows fun u b => ∀ W, BytesAt W v l → BytesAt W u b

set_option maxHeartbeats 2000000 in
set_option maxRecDepth 100000 in
theorem rSplit_any (v : Value) (l : List UInt8) (w : World) (hv : BytesAt w v l) (hlen : l.length ≤ 100000) :
    Calls Try.prog 25 #[v] w fun x w' => ∃ vo vs, x = .returned (.tuple #[vo, .int .i64 ((split l).2 : Nat)]) ∧ OwnS w.heap.size w' vo vs ∧ Of v l vs (split l).1 ∧ Below w.heap.size w w' := by
  have hvk := hv
  obtain ⟨a, cap, rfl, hl, hm, hnn⟩ := hv.len
  unfold maxLen at hm
  clear hv
  go_enter Try.func25, Try.ntmps25
  go_wp2_with fail
  go_loopw [4] (fun o wr => ∃ vs fs n, OwnS (w.heap.size + 1) wr o vs ∧ Of (.slice a l.length cap) l vs fs ∧ Cells wr w.heap.size #[.slice a l.length cap, .int .i64 (n : Nat), .int .i64 0] 58 ∧ fore fs (split (l.drop n)) = split l ∧ n ≤ l.length ∧ vs.length ≤ n ∧ Below w.heap.size w wr ∧ w.heap.size + 1 ≤ wr.heap.size) (fun o _ => l.length - lenV o)
  case atStart => exact ⟨[], [], 0, OwnOf.nil, Rows.nil, Cells.new _ _ _, by simpa using fore_nil l, Nat.zero_le _, Nat.le_refl _, (Below.refl _ _).alloc (Nat.le_refl _) _, by simp⟩
  case round =>
    obtain ⟨vs, fs, n, ho, hfs, k0, hsp, hn, hle, hbel, hz⟩ := hrel
    have HS := Lib.hid hsp
    clear hsp
    have k0c0 := k0.cell 0 _ rfl
    have k0f0 := k0.frozen 0
    have k0c1 := k0.cell 1 _ rfl
    have k0f1 := k0.frozen 1
    have k0c2 := k0.cell 2 _ rfl
    have k0f2 := k0.frozen 2
    by_cases hl0 : n = l.length
    · subst hl0
      have HS2 := HS.out
      rw [List.drop_length, fore_end] at HS2
      have HS3 := Lib.hid HS2
      clear HS HS2
      go_wp2
      go_ret2
      rw [← HS3.out]
      exact ⟨_, vs, rfl, ho.base_le (by omega), hfs, hbel⟩
    · have hlt : n < l.length := by omega
      have hl1 : l.drop n ≠ [] := by intro h; have := congrArg List.length h; simp at this; omega
      obtain ⟨f, l2, e, hfr⟩ : ∃ f l2 e, rdFrame big (l.drop n) 0 = (f, l2, e) := ⟨_, _, _, rfl⟩
      have hF := rFrame_any (.slice a l.length cap) l n 0 big wr (hvk.below hbel (Nat.le_refl _)) hn (by omega) (by decide)
      rw [hfr] at hF
      unfold rdrV at hF
      clear hl0
      go_wp2_with fail
      refine hF.mono ?_
      clear hF
      rintro e2 w2 ⟨n2, N2, vf, rfl, hvf, hl2, hn2, hb2⟩
      unfold gotV
      obtain ⟨af, nf, cf, rfl, -⟩ := (hvf w hvk).shape
      have k2 : Cells w2 w.heap.size _ _ := (hb2.block _ (by omega)).trans k0
      have hbel2 : Below w.heap.size w w2 := hbel.trans (hb2.mono (by omega))
      have hz2 := hb2.size
      have hb2' := hb2
      have z0 : w.heap.size < w2.heap.size := by omega
      clear k0c0 k0c1 k0c2 k0f0 k0f1 k0f2
      have k2c0 := k2.cell 0 _ rfl
      have k2f0 := k2.frozen 0
      have k2c1 := k2.cell 1 _ rfl
      have k2f1 := k2.frozen 1
      have k2c2 := k2.cell 2 _ rfl
      have k2f2 := k2.frozen 2
      by_cases he : e = 0
      · subst he
        have hf2 : (rdFrame big (l.drop n) 0).2.2 = 0 := by rw [hfr]
        have HS2 := HS.out
        rw [fore_good hl1 hf2] at HS2
        have hless := rdFrame_less hf2 hl1
        rw [hfr] at HS2 hless
        rw [show l2 = l.drop n2 from hl2] at HS2 hless
        have hlt2 : n < n2 := by simp at hless; omega
        have HS3 := Lib.hid HS2
        clear HS HS2 hfr hf2 hless hl2 hb2
        have ho2 : OwnS (w.heap.size + 1) w2 u4 vs := by
          refine ho.moved fun k hk => ?_
          exact hb2'.block k (World.ownsRow.lt ho k hk).2
        have hone := row_one slV (w2.alloc (.cells #[.slice a l.length cap, .int .i64 n2, .int .i64 0, .int .u64 N2, .slice af nf cf] 62)) (af, nf, cf) _ rfl 22
        rw [World.size_alloc] at hone
        go_wp2_with (with_reducible first | refine stop_append ?_ | refine stop_make ?_ | refine stop_slice ?_ | refine stop_copy ?_); refine Stop.out ?_
        refine wpList_append_row (f := slV) rfl _ _ 44 rfl (w.heap.size + 1) 22 24 _ Try.underlying44 Try.infoS rfl oneS vs [(af, nf, cf)] (by exact (ho2.alloc _).alloc _) (by exact hone) (by unfold maxLen; simp; omega) (by simp; omega) (by simp; omega) _ (Below.refl _ _) ?_
        intro v3 w3 ho3 hb3 hg3
        have hg3' : ((w2.alloc (.cells #[.slice a l.length cap, .int .i64 n2, .int .i64 0, .int .u64 N2, .slice af nf cf] 62)).alloc (.cells #[.slice af nf cf] 22)).grownBy w3 u4.ownBlock := hg3
        clear hg3 hb3 hone
        have hz3 := hg3'.size
        simp only [World.size_alloc] at hz3
        have hoa := (ho2.alloc (.cells #[.slice a l.length cap, .int .i64 n2, .int .i64 0, .int .u64 N2, .slice af nf cf] 62)).alloc (.cells #[.slice af nf cf] 22)
        have k3 : Cells w3 w.heap.size _ _ := ((k2.alloc _).alloc _).kept hg3' (((k2.alloc _).alloc _).apart hoa (by decide))
        have kx : Cells w3 w2.heap.size _ _ := ((Cells.new w2 _ _).alloc _).kept hg3' (((Cells.new w2 _ _).alloc _).apart hoa (by decide))
        have hge := ho2.own_ge
        have hbel3 : Below w.heap.size w w3 := ((hbel2.alloc (by omega) _).alloc (by simp; omega) _).grown hg3' (by simp; omega) (fun k hk => by have := hge k hk; omega)
        have hfs3 : Of (.slice a l.length cap) l (vs ++ [(af, nf, cf)]) (fs ++ [f]) := hfs.snoc hvf
        obtain ⟨a3, c3, rfl, -⟩ := ho3.row.len
        have ho4 : OwnS (w.heap.size + 1) w3 (.slice a3 (vs.length + 1) c3) (vs ++ [(af, nf, cf)]) := by simpa using ho3
        have hlv : lenV u4 = vs.length := by obtain ⟨a, c, rfl, -⟩ := ho2.row.len; rfl
        clear hge hoa k2c0 k2c1 k2c2 k2f0 k2f1 k2f2
        have z3 : w.heap.size < w3.heap.size := by omega
        have z4 : w2.heap.size < w3.heap.size := by omega
        have k3c0 := k3.cell 0 _ rfl
        have k3f0 := k3.frozen 0
        have k3c1 := k3.cell 1 _ rfl
        have k3f1 := k3.frozen 1
        have k3c2 := k3.cell 2 _ rfl
        have k3f2 := k3.frozen 2
        have kxc0 := kx.cell 0 _ rfl
        have kxf0 := kx.frozen 0
        have kxc1 := kx.cell 1 _ rfl
        have kxf1 := kx.frozen 1
        have kxc2 := kx.cell 2 _ rfl
        have kxf2 := kx.frozen 2
        go_wp2
        go_roundw
        case rel =>
          refine ⟨_, _, n2, ?_, hfs3, ((k3.set 0 (by simp) (.slice a l.length cap)).set 1 (by simp) (.int .i64 n2)).set 2 (by simp) (.int .i64 0), HS3.out, hn2, by simp; omega, ?_, by simp only [World.size_setCell]; omega⟩
          · exact ((ho4.past (grownBy_setAt _ _ _ _) (by omega)).past (grownBy_setAt _ _ _ _) (by omega)).past (grownBy_setAt _ _ _ _) (by omega)
          · (repeat' (first | (with_reducible refine Below.setCell ?_ ?_ _) | (with_reducible refine Below.alloc ?_ ?_ _) | (with_reducible assumption) | (with_reducible exact Below.refl _ _) | (simp only [World.size_alloc, World.size_setCell]; done) | (simp only [World.size_alloc, World.size_setCell]; omega) | omega))
        case measure =>
          show l.length - (vs.length + 1) < l.length - lenV u4
          rw [hlv]; omega
      · have hbx : ((e : Int) != 0) = true := by simp; omega
        have HS2 := HS.out
        rw [fore_bad hl1 (by rw [hfr]; exact he), hfr] at HS2
        have HS3 := Lib.hid HS2
        clear HS HS2 he hfr
        go_wp2_with fail
        go_quiet (fail)
        go_wp2
        go_ret2
        rw [← HS3.out]
        refine ⟨_, [], rfl, OwnOf.nil, Rows.nil, ?_⟩
        exact (hbel2.alloc (by omega) _).trans (below_draws _ _ _)
end Go.Proofs.Ytoccanppfdeggaa
