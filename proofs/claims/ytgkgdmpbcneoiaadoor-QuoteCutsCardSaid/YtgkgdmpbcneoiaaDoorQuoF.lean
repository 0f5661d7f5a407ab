/- The walks of Scan and Parse (layer 7). -/
import Derived.Test.YtgkgdmpbcneoiaaDoorQuoE
namespace Go.Proofs.YtgkgdmpbcneoiaaDoor
open Go.RowKit Go.Tab Go.Shelf

theorem Tryd.asFail (v : Value) (w : World) : (Instr.typeAssert (.iface 37 v) 20 37 true).run Tryd.prog w = .ok (.tuple #[v, .bool true]) w := by kernel_rfl
set_option maxHeartbeats 4000000 in
set_option maxRecDepth 100000 in
theorem catch_panicking (b0 b1 b2 : Nat) (v0 v1 v2 : Value) (n : Int) (older : List PanicEntry) (w : World) (h0 : Cells w b0 #[v0] 9) (h1 : Cells w b1 #[v1] 3) (h2 : Cells w b2 #[v2] 23) (h01 : b0 < b1) (h12 : b1 < b2) :
    CallsD Tryd.prog 15 #[.pointer (some ⟨b0, 0, none⟩), .pointer (some ⟨b1, 0, none⟩), .pointer (some ⟨b2, 0, none⟩)] (.panicking ({ v := failV n, recovered := false } :: older)) w fun e u' w' =>
      e = .returned (.tuple #[]) ∧ u' = .panicking ({ v := failV n, recovered := true } :: older) ∧ Cells w' b0 #[.string ⟨#[]⟩] 9 ∧ Cells w' b1 #[.int .i64 0] 3 ∧ Cells w' b2 #[.int .i64 n] 23 ∧ Below b0 w w' := by
  refine callsD_of_wpS Tryd.func15 rfl fun c₀ cs hu => ?_
  apply wpS_seq
  apply wpS_region
  simp [wpOpsS, go_sem, recoverD, hu, Tryd.ntmps15, Exit.thenS]
  refine wpS_of_wp ?_
  rw [show (#[Value.pointer (some ⟨b0, 0, none⟩), .pointer (some ⟨b1, 0, none⟩), .pointer (some ⟨b2, 0, none⟩)] ++ ((Array.replicate 16 undef).setIfInBounds 3 (failV n)).setIfInBounds 0 (failV n)) = #[Value.pointer (some ⟨b0, 0, none⟩), .pointer (some ⟨b1, 0, none⟩), .pointer (some ⟨b2, 0, none⟩), failV n, undef, undef, failV n, undef, undef, undef, undef, undef, undef, undef, undef, undef, undef, undef, undef] from rfl]
  have has := Tryd.asFail
  have hx := Cells.new w #[.int .i64 n] 37
  have hxc := hx.cell 0 _ rfl
  have k0 := (h0.alloc (.cells #[.int .i64 n] 37))
  have k1 := (h1.alloc (.cells #[.int .i64 n] 37))
  have k2 := (h2.alloc (.cells #[.int .i64 n] 37))
  have k0c := k0.cell 0 _ rfl
  have k0f := k0.frozen 0
  have k1c := k1.cell 0 _ rfl
  have k1f := k1.frozen 0
  have k2c := k2.cell 0 _ rfl
  have k2f := k2.frozen 0
  have n01 : ¬ b0 = b1 := by omega
  have n10 : ¬ b1 = b0 := by omega
  have n02 : ¬ b0 = b2 := by omega
  have n20 : ¬ b2 = b0 := by omega
  have n12 : ¬ b1 = b2 := by omega
  have n21 : ¬ b2 = b1 := by omega
  have l0 := h0.lt
  have l1 := h1.lt
  have l2 := h2.lt
  clear h0 h1 h2
  go_wp2
  have x0 : ¬ w.heap.size = b0 := by omega
  have x1 : ¬ w.heap.size = b1 := by omega
  have x2 : ¬ w.heap.size = b2 := by omega
  have y0 : ¬ b0 = w.heap.size := by omega
  have y1 : ¬ b1 = w.heap.size := by omega
  have y2 : ¬ b2 = w.heap.size := by omega
  have hb : Below b0 w (w.alloc (.cells #[.int .i64 n] 37)) := (Below.refl b0 w).alloc (Nat.le_of_lt l0) _
  have H01 := Lib.hid (show b0 ≤ b1 ∧ b0 ≤ b2 by omega)
  clear l0 l1 l2 h01 h12
  generalize w.alloc (.cells #[.int .i64 n] 37) = W0 at *
  generalize w.heap.size = X at *
  go_region
  have r0 := ((k0.set 0 (by simp) (.string ⟨#[]⟩)).setOther ⟨b1, 0, none⟩ (.int .i64 0) (by simpa using n10)).setOther ⟨b2, 0, none⟩ (.int .i64 n) (by simpa using n20)
  have r1 := ((k1.setOther ⟨b0, 0, none⟩ (.string ⟨#[]⟩) (by simpa using n01)).set 0 (by simp) (.int .i64 0)).setOther ⟨b2, 0, none⟩ (.int .i64 n) (by simpa using n21)
  have r2 := ((k2.setOther ⟨b0, 0, none⟩ (.string ⟨#[]⟩) (by simpa using n02)).setOther ⟨b1, 0, none⟩ (.int .i64 0) (by simpa using n12)).set 0 (by simp) (.int .i64 n)
  clear k0 k1 k2 k0c k0f k1c k1f k2c k2f has
  cases c₀
  exact ⟨rfl, _, rfl, _, results_none rfl _ _ _, rfl, rfl, r0, r1, r2, (((hb.setCell (p := ⟨b0, 0, none⟩) (Nat.le_refl _) _).setCell (p := ⟨b1, 0, none⟩) H01.out.1 _).setCell (p := ⟨b2, 0, none⟩) H01.out.2 _).drew⟩

theorem catch_idle (p q r : Value) (w : World) :
    CallsD Tryd.prog 15 #[p, q, r] .returning w fun e u' w' => e = .returned (.tuple #[]) ∧ u' = .returning ∧ w' = w := by
  refine callsD_of_wpS Tryd.func15 rfl fun c₀ cs hu => ?_
  apply wpS_seq
  apply wpS_region
  simp [wpOpsS, go_sem, recoverD, hu, Tryd.ntmps15, Exit.thenS]
  refine wpS_of_wp ?_
  rw [show (#[p, q, r] ++ ((Array.replicate 16 undef).setIfInBounds 3 Value.nilIface).setIfInBounds 0 Value.nilIface) = #[p, q, r, Value.nilIface, undef, undef, Value.nilIface, undef, undef, undef, undef, undef, undef, undef, undef, undef, undef, undef, undef] from rfl]
  go_wp2
  cases c₀
  simp_all [bodyPostS, results, Tryd.results15]

end Go.Proofs.YtgkgdmpbcneoiaaDoor
