/- The walk of CrcSums: it returns true. -/
import Derived.Test.YtfkpkchnjacfjaaCrcC
namespace Go.Proofs.Ytfkpkchnjacfjaa
open Go.RowKit Go.Tab

/-- The table's numbers as they stand behind k rounds. -/
def tab (k : Nat) : List Nat := (List.range k).map (stps 8) ++ List.replicate (256 - k) 0
theorem tab_length (k : Nat) (h : k ≤ 256) : (tab k).length = 256 := by simp [tab]; omega
theorem tab_set (k : Nat) (h : k < 256) : (tab k).set k (stps 8 k) = tab (k + 1) := by
  unfold tab
  have h1 : ((List.range k).map (stps 8)).length = k := by simp
  rw [List.set_append_right _ _ (by omega), h1, Nat.sub_self, show 256 - k = (256 - (k + 1)) + 1 by omega, List.replicate_succ, List.range_succ, List.map_append]
  simp
/-- The same as cells. -/
def tabC (k : Nat) : Array Value := ((tab k).map fun n : Nat => Value.int .u32 (n : Int)).toArray
theorem tabC_size (k : Nat) (h : k ≤ 256) : (tabC k).size = 256 := by simp [tabC, tab_length k h]
theorem tabC_set (k : Nat) (h : k < 256) : (tabC k).setIfInBounds k (.int .u32 (stps 8 k : Nat)) = tabC (k + 1) := by
  unfold tabC
  rw [← tab_set k h]
  simp [List.map_set]
theorem tabC_one (k : Nat) : ∀ v ∈ (tabC k).toList, v.oneCell' = true := by
  intro v hv
  simp [tabC] at hv
  obtain ⟨n, _, rfl⟩ := hv
  rfl
theorem zero_tab (w : World) : (zeroValue 34).run Try.prog w = .ok (.agg (tabC 0)) w := by kernel_rfl
theorem tabC_at (k j : Nat) (h : k ≤ 256) (hj : j < 256) : ∃ n, (tabC k)[j]? = some (.int .u32 n) := by
  have : (tabC k)[j]? = some ((tabC k)[j]'(by rw [tabC_size k h]; exact hj)) := by simp [tabC_size k h, hj]
  rw [this]
  simp [tabC]
theorem tabC_read (j : Nat) (hj : j < 256) : (tabC 256)[j]? = some (.int .u32 (stps 8 j : Nat)) := by
  simp [tabC, tab, hj]

set_option maxHeartbeats 800000 in
set_option maxRecDepth 10000 in
theorem Table_any (w : World) : Calls Try.prog 15 #[] w fun e w' => e = .returned (.agg (tabC 256)) ∧ Below w.heap.size w w' := by
  have hz := zero_tab
  go_enter Try.func15, Try.ntmps15
  go_wp2_with fail
  clear hz
  go_loopw [3] (fun i wr => ∃ k : Nat, k ≤ 256 ∧ i = .int .i64 k ∧ wr.heap[w.heap.size]? = some (.cells (tabC 0) 34) ∧ wr.heap[w.heap.size + 1]? = some (.cells (tabC k) 34) ∧ Below w.heap.size w wr) (fun i _ => 256 - (intOf i).toNat)
  case atStart =>
    exact ⟨0, by omega, rfl, heap_alloc2_old _ _ _, heap_alloc2_new _ _ _, ((Below.refl _ _).alloc (Nat.le_refl _) _).alloc (by simp) _⟩
  case round =>
    obtain ⟨k, hk, rfl, h0, h1, hb⟩ := hrel
    by_cases hlt : k < 256
    · have H0 := Lib.hid h0
      have H1 := Lib.hid h1
      clear h0 h1
      have hin : IntKind.u8.wrap (k : Int) = (k : Int) := by rw [IntKind.wrap_u8']; omega
      obtain ⟨n, hn⟩ := tabC_at k k hk hlt
      have hc : wr.cell? ⟨w.heap.size + 1, k, none⟩ = some (.int .u32 n) := by rw [cell_of_row wr _ _ _ _ _ H1.out]; exact hn
      have hf := frozen_of_row wr _ k _ _ H1.out
      have HN := Lib.hid hn
      clear hn
      clear hk
      go_wp2_with fail
      refine (number_at _ k _ ?_ hlt).mono ?_
      · omega
      rintro e w' ⟨rfl, rfl⟩
      go_wp2
      go_roundw
      case rel =>
        refine ⟨k + 1, by omega, by go_num, ?_, ?_, hb.setCell (by show w.heap.size ≤ w.heap.size + 1; omega) _⟩
        · rw [heap_setCell_other _ _ _ _ (by show w.heap.size ≠ w.heap.size + 1; omega)]; exact H0.out
        · rw [heap_setCell_same _ _ _ _ _ _ H1.out, tabC_set k hlt]
      case measure => simp [intOf]; omega
    · obtain rfl : k = 256 := by omega
      have H0 := Lib.hid h0
      have H1 := Lib.hid h1
      clear h0 h1
      go_wp2_with (with_reducible refine stop_load ?_)
      refine Stop.out ?_
      refine wpList_load_row rfl 34 _ rfl _ rfl _ _ _ _ H1.out Try.underlying34 rfl (by rw [tabC_size _ (Nat.le_refl _)]; kernel_rfl) ?_
      go_wp2_with (with_reducible refine stop_store ?_)
      refine Stop.out ?_
      refine wpList_store_all rfl 34 _ _ rfl rfl _ rfl _ rfl _ _ H0.out (by rw [tabC_size _ (Nat.le_refl _), tabC_size _ (by omega)]) (by rw [tabC_size _ (Nat.le_refl _)]; kernel_rfl) (tabC_one _) ?_
      go_wp2
      refine bodyPost_ret (results_cell_row rfl _ _ _ _ (tabC 256) _ _ rfl (setRow_heap _ _ _ _ _ _ H0.out) Try.underlying34 rfl (by rw [tabC_size _ (Nat.le_refl _)]; kernel_rfl)) rfl ⟨rfl, below_setRow hb (Nat.le_refl _) _⟩

theorem Add_new (w1 : World) (n : Nat) (v : Value) (l : List UInt8) (hb : n < 4294967296) (hv : BytesAt (w1.alloc (.cells #[.int .u32 n] 44)) v l) :
    Calls Try.prog 12 #[.pointer (some ⟨w1.heap.size, 0, none⟩), v] (w1.alloc (.cells #[.int .u32 n] 44)) fun e w' => e = .returned (.pointer (some ⟨w1.heap.size, 0, none⟩)) ∧ w1.alloc (.cells #[.int .u32 (reg n l : Nat)] 44) = w' := by
  refine (Add_any w1.heap.size n v l hb _ (by rw [World.cell?_alloc_at _ _ _ _ rfl]; rfl) (World.frozen?_alloc_at _ _ _ _ rfl) hv).mono ?_
  rintro e w' ⟨rfl, rfl⟩
  refine ⟨rfl, ?_⟩
  rw [World.setCell_alloc_new]
  rfl

theorem Try.info32 : (Try.prog.info? 24).map (fun i => i.size) = some 1 := by kernel_rfl
theorem run_tab (i : Nat) (hi : i < 256) (w : World) : (Instr.index 34 (.agg (tabC 256)) (.int .u8 i)).run Try.prog w = .ok (.int .u32 (stps 8 i : Nat)) w :=
  run_index_cell w 34 24 256 (tabC 256) .u8 i i _ Try.underlying34 Try.info32 (by kernel_rfl) rfl hi (tabC_read i hi)

theorem Value_sum (b : Nat) (l : List UInt8) (w : World) (hn : w.cell? ⟨b, 0, none⟩ = some (.int .u32 (reg 4294967295 l : Nat))) : Calls Try.prog 13 #[.pointer (some ⟨b, 0, none⟩)] w fun e w' => e = .returned (.int .u32 (sum l : Nat)) ∧ w = w' :=
  Value_any b _ (reg_lt _ _ (by omega)) w hn

theorem below_same {P : Program} {f : FuncId} {args : Array Value} {w : World} {v : Value} (h : Calls P f args w fun e w' => e = .returned v ∧ w = w') : Calls P f args w fun e w' => e = .returned v ∧ Below w.heap.size w w' :=
  h.mono fun _ _ ⟨he, hw⟩ => ⟨he, by rw [← hw]; exact Below.refl _ _⟩

set_option maxHeartbeats 1600000 in
set_option maxRecDepth 100000 in
theorem CrcSums_walk (a0 : Value) (l0 : List UInt8) (a1 : Int) (a2 : Int) (w : World) (w0 : BytesAt w a0 l0) (w1 : (Lit.int .u16 a1).wf = true) (w2 : (Lit.int .u8 a2).wf = true) :
    Calls Try.prog 5 #[a0, .int .u16 a1, .int .u8 a2] w fun e w' => e = .returned (.bool true) ∧ Below w.heap.size w w' := by
  have wk := w0
  obtain ⟨a, cap, rfl, hl, hm, hn⟩ := w0.len
  unfold maxLen at hm
  have b1 : 0 ≤ a1 ∧ a1 < 65536 := by
    rw [Lit.wf, Bool.and_eq_true, decide_eq_true_eq, decide_eq_true_eq] at w1
    have e1 : IntKind.u16.min = 0 := rfl
    have e2 : IntKind.u16.max = 65535 := rfl
    omega
  have b2 : 0 ≤ a2 ∧ a2 < 256 := by
    rw [Lit.wf, Bool.and_eq_true, decide_eq_true_eq, decide_eq_true_eq] at w2
    have e1 : IntKind.u8.min = 0 := rfl
    have e2 : IntKind.u8.max = 255 := rfl
    omega
  obtain ⟨b1, b1'⟩ := b1
  obtain ⟨b2, b2'⟩ := b2
  obtain ⟨i, rfl⟩ := Int.eq_ofNat_of_zero_le b2
  clear w1 w2
  by_cases h : 2000 < l0.length
  · go_enter Try.func5, Try.ntmps5
    go_wp2_with fail
    refine (wakes_any w).mono ?_
    rintro e w1 ⟨rfl, hb1⟩
    go_wp2
    go_ret
    exact ⟨rfl, hb1⟩
  · obtain ⟨m, hmod, hml⟩ : ∃ m : Nat, a1 % ((l0.length : Int) + 1) = (m : Int) ∧ m ≤ l0.length := by
      have h1 := Int.emod_nonneg a1 (show ((l0.length : Int) + 1) ≠ 0 by omega)
      have h2 := Int.emod_lt_of_pos a1 (show 0 < ((l0.length : Int) + 1) by omega)
      exact ⟨(a1 % ((l0.length : Int) + 1)).toNat, by omega, by omega⟩
    go_enter Try.func5, Try.ntmps5
    go_wp2_with fail
    refine (wakes_any w).mono ?_
    rintro e w1 ⟨rfl, hb1⟩
    have hz1 := hb1.size
    have r1 := wk.below hb1 (Nat.le_refl _)
    go_wp2_with fail
    refine (New_any w1).mono ?_
    rintro e w' ⟨rfl, rfl⟩
    have hal : ∀ o, Below w.heap.size w (w1.alloc o) := fun o => hb1.alloc hz1 o
    go_wp2_with (with_reducible first | refine stop_append ?_ | refine stop_make ?_ | refine stop_slice ?_ | refine stop_copy ?_); refine Stop.out ?_
    refine wpList_slice_h rfl _ _ 22 rfl Try.undB Try.sizeB l0 (by exact wk.below (hal _) (Nat.le_refl _)) _ _ m rfl rfl hml ?_
    intro v2 r2 _
    go_wp2_with fail
    refine (Add_new w1 4294967295 v2 (l0.take m) (by omega) r2).mono ?_
    rintro e w' ⟨rfl, rfl⟩
    have hl1 := reg_lt 4294967295 (l0.take m) (by omega)
    go_wp2_with fail
    refine (Value_sum _ (l0.take m) _ (by rw [World.cell?_alloc_at _ _ _ _ rfl]; rfl)).mono ?_
    rintro e w' ⟨rfl, rfl⟩
    go_wp2_with (with_reducible first | refine stop_append ?_ | refine stop_make ?_ | refine stop_slice ?_ | refine stop_copy ?_); refine Stop.out ?_
    refine wpList_slice_l rfl _ _ 22 rfl Try.undB Try.sizeB l0 (by exact wk.below (hal _) (Nat.le_refl _)) _ _ m rfl rfl hml ?_
    intro v3 r3 _
    go_wp2_with fail
    refine (Add_new w1 _ v3 (l0.drop m) hl1 r3).mono ?_
    rintro e w' ⟨rfl, rfl⟩
    have hj : reg (reg 4294967295 (l0.take m)) (l0.drop m) = reg 4294967295 l0 := by rw [← reg_append, List.take_append_drop]
    rw [hj]
    have hl2 := reg_lt 4294967295 l0 (by omega)
    clear r2 r3 hj
    go_wp2_with fail
    generalize hW : w1.alloc (.cells #[.int .u32 (reg 4294967295 l0 : Nat)] 44) = W
    have hbW : Below w.heap.size w W := by rw [← hW]; exact hal _
    have hcW : W.cell? ⟨w1.heap.size, 0, none⟩ = some (.int .u32 (reg 4294967295 l0 : Nat)) := by rw [← hW, World.cell?_alloc_at _ _ _ _ rfl]; rfl
    have hltW : w1.heap.size < W.heap.size := by rw [← hW]; simp
    clear hW hal
    have hzW := hbW.size
    have rW := wk.below hbW (Nat.le_refl _)
    have rH : RowOf byteV W (.slice a m cap) (l0.take m) := rW.head hml
    have hidx := run_tab i (by omega)
    have hwx : ∀ x : Under W, x.w.cell? ⟨w1.heap.size, 0, none⟩ = some (.int .u32 (reg 4294967295 l0 : Nat)) := fun x => (x.below.cell hltW).trans hcW
    refine wp_region_under W (by kernel_rfl) (by kernel_rfl) (Below.refl _ _) ?_
    repeat (go_big_quiet_step ((first
      | (go_at_call 9; exact Under.call _ (Of_any _ _ _ (rW.under_of _)))
      | (go_at_call 14; exact Under.call _ (below_same (rOf_any _ _ _ (rW.under_of _))))
      | (go_at_call 14; exact Under.call _ (below_same (rOf_any _ _ _ (rH.under_of _))))
      | (go_at_call 13; exact Under.call _ (below_same (Value_sum _ _ _ (hwx _))))
      | (go_at_call 15; exact Under.call _ (Table_any _))
      | (go_at_call 16; exact Under.call _ (below_same (Entry_any i (by omega) _))))))
    refine wpQuiet_nil ?_
    rintro _ ⟨x, rfl⟩
    go_wp2
    go_ret
    exact ⟨ret_bool (by simp), hbW.trans (x.below.mono hzW)⟩
end Go.Proofs.Ytfkpkchnjacfjaa
