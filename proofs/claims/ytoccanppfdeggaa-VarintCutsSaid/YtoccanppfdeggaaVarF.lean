/- The walk of VarintCuts: it returns true. -/
import Derived.Test.YtoccanppfdeggaaVarC
namespace Go.Proofs.Ytoccanppfdeggaa
open Go.RowKit Go.Tab

set_option maxHeartbeats 800000 in
set_option maxRecDepth 100000 in
theorem VarintCuts_walk (a0 : Int) (a1 : Int) (w : World) (w0 : (Lit.int .u64 a0).wf = true) (w1 : (Lit.int .u8 a1).wf = true) :
    Calls Try.prog 4 #[.int .u64 a0, .int .u8 a1] w fun e w' => e = .returned (.bool true) ∧ Below w.heap.size w w' := by
  obtain ⟨n, rfl, hn⟩ : ∃ n : Nat, a0 = (n : Int) ∧ n < 18446744073709551616 := by
    rw [Lit.wf, Bool.and_eq_true, decide_eq_true_eq, decide_eq_true_eq] at w0
    have e1 : IntKind.u64.min = 0 := rfl
    have e2 : IntKind.u64.max = 18446744073709551615 := rfl
    exact ⟨a0.toNat, by omega, by omega⟩
  obtain ⟨c, rfl, hc⟩ : ∃ n : Nat, a1 = (n : Int) ∧ n < 256 := by
    rw [Lit.wf, Bool.and_eq_true, decide_eq_true_eq, decide_eq_true_eq] at w1
    have e1 : IntKind.u8.min = 0 := rfl
    have e2 : IntKind.u8.max = 255 := rfl
    exact ⟨a1.toNat, by omega, by omega⟩
  clear w0 w1
  have HN := Lib.hid hn
  clear hn
  have h10 := put_length_ten HN.out
  have hpos : 0 < (put n).length := List.length_pos_iff.2 (put_ne n)
  have hmod : c % (put n).length < (put n).length := Nat.mod_lt _ hpos
  have hcut := Lib.hid (get_cut HN.out hmod)
  go_enter Try.func4, Try.ntmps4
  go_wp2_with fail
  refine (vwakes_any w).mono ?_
  rintro e w1 ⟨rfl, hb1⟩
  have hz1 := hb1.size
  go_wp2_with fail
  refine (Put_any n w1 HN.out).mono ?_
  rintro e w2 ⟨v2, rfl, ho2, hb2'⟩
  have hr2 := ho2.row
  obtain ⟨g2, c2, rfl, hl2, hm2, -⟩ := ho2.shape (put_ne n)
  clear ho2
  have hb2 := hb1.trans (hb2'.mono hz1)
  have hz2 := hb2.size
  clear hb2'
  unfold maxLen at hm2
  have hne0 : (((put n).length : Int) == 0) = false := by rw [beq_eq_false_iff_ne]; omega
  go_wp2_with (with_reducible first | refine stop_append ?_ | refine stop_make ?_ | refine stop_slice ?_ | refine stop_copy ?_); refine Stop.out ?_
  have hmi : (c : Int) % ((put n).length : Int) = ((c % (put n).length : Nat) : Int) := by simp
  refine wpList_slice_h rfl _ _ 22 rfl Try.undB Try.sizeB (put n) (by exact hr2) _ _ (c % (put n).length) rfl hmi (by omega) ?_
  intro v3 hr3 _
  clear hmi
  go_wp2_with fail
  refine (Get_any v3 _ w2 hr3).mono ?_
  rintro e w3 ⟨rfl, rfl⟩
  rw [hcut.out]
  unfold getV
  obtain ⟨x, hx, e, hge, he⟩ := get_long HN.out
  have hsz : (put n).dropLast.length = (put n).length - 1 := List.length_dropLast
  have hdl : (put n).dropLast = (put n).take ((put n).length - 1) := List.dropLast_eq_take
  have hrd : RowOf byteV w2 (.slice (some ⟨g2, 0, none⟩) ((put n).length - 1) c2) (put n).dropLast := by rw [hdl]; exact hr2.head (by omega)
  have hcx : w2.cell? ⟨g2, (put n).length - 1, none⟩ = some (byteV x) := by
    obtain ⟨b', o', hbo, hlt, hcc⟩ := hr2.at (j := (put n).length - 1) (by omega)
    cases hbo
    have h1 := hcc ((put n).length - 1) (by omega)
    rw [Nat.zero_add] at h1
    rw [h1]
    rw [List.getLast?_eq_getElem?, List.getElem?_eq_getElem (by omega)] at hx
    simp at hx; rw [hx]
  have hin : ((put n).length : Int) - 1 = (((put n).length - 1 : Nat) : Int) := by omega
  have HG := Lib.hid hge
  have HX := Lib.hid hx
  have HE := Lib.hid he
  have HSZ := Lib.hid hsz
  clear hge hx he hsz hdl hmod
  obtain ⟨m, hml⟩ : ∃ m, (put n).length = m + 1 := ⟨(put n).length - 1, by omega⟩
  rw [hml] at hrd hcx hr2 hl2 h10 ⊢
  simp only [Nat.add_sub_cancel] at hrd hcx
  have HML := Lib.hid hml
  clear hml hin hne0 hpos hcut
  have hor : bits .or .u8 (x.toNat : Int) 128 = ((UInt8.ofNat (x.toNat ||| 128)).toNat : Int) := by
    have h1 := u8_or_nat x.toNat 128 x.toNat_lt (by omega)
    have h2 : x.toNat ||| 128 < 2 ^ 8 := Nat.or_lt_two_pow x.toNat_lt (by decide)
    have h3 : (UInt8.ofNat (x.toNat ||| 128)).toNat = x.toNat ||| 128 := by rw [UInt8.toNat_ofNat']; exact Nat.mod_eq_of_lt h2
    rw [h3]; exact h1
  have hdn : (put n).dropLast.length = m := by rw [HSZ.out, HML.out]; rfl
  have HDN := Lib.hid hdn
  clear hdn
  go_upto_region 7 with fail
  go_cut [9] (fun s wc => RowOf byteV wc s ((put n).dropLast ++ [UInt8.ofNat (x.toNat ||| 128), 0]) ∧ Below w.heap.size w wc)
  case first =>
    generalize (put n).dropLast = L at *
    generalize UInt8.ofNat (x.toNat ||| 128) = y at *
    have hwm : IntKind.i64.wrap (m : Int) = (m : Int) := IntWalk.i64_in _ (by omega)
    have hm0 : (0 : Int) ≤ (m : Int) := by omega
    have hmc : (m : Int) ≤ (c2 : Int) := by omega
    have hmt : (m : Int).toNat = m := by omega
    have hm1 : (m : Int) < (m : Int) + 1 := by omega
    have hdec : ([] : List UInt8).length ≤ maxLen := by decide
    have hg2lt : g2 < w2.heap.size := World.block_lt_of_cell? w2 _ hcx
    have hd2 : [y, 0].length ≤ maxLen := by show 2 ≤ maxLen; decide
    have hLm : L.length = m := HDN.out
    have HLM := Lib.hid hLm
    clear hLm
    have hs0 : (w2.alloc (.cells #[] 5)).heap.size = w2.heap.size + 1 := by simp
    have hs2 : (w2.alloc (.cells #[.int .u8 y.toNat, .int .u8 0] 5)).heap.size = w2.heap.size + 1 := by simp
    have hne2 : (Value.slice (some ⟨w2.heap.size + 1, 0, none⟩) 2 2).ownBlock ≠ some w2.heap.size := by simp [Value.ownBlock]
    have hne3 : (Value.slice (some ⟨w2.heap.size, 0, none⟩) 2 2).ownBlock ≠ some (w2.heap.size + 1) := by simp [Value.ownBlock]
    have hrow2 : RowOf byteV ((w2.alloc (.cells #[] 5)).alloc (.cells #[.int .u8 y.toNat, .int .u8 0] 5)) (.slice (some ⟨w2.heap.size + 1, 0, none⟩) 2 2) [y, 0] := by
      have h : RowOf byteV ((w2.alloc (.cells #[] 5)).alloc (.cells #[.int .u8 y.toNat, .int .u8 0] 5)) (.slice (some ⟨(w2.alloc (.cells #[] 5)).heap.size, 0, none⟩) 2 2) [y, 0] := bytes_new (w2.alloc (.cells #[] 5)) [y, 0] 5 (0, 0) hd2
      rw [hs0] at h
      exact h
    have hrow3 : RowOf byteV ((w2.alloc (.cells #[.int .u8 y.toNat, .int .u8 0] 5)).alloc (.cells #[] 5)) (.slice (some ⟨w2.heap.size, 0, none⟩) 2 2) [y, 0] := (bytes_new w2 [y, 0] 5 (0, 0) hd2).alloc _
    have hown3 : OwnOf byteV 5 w2.heap.size ((w2.alloc (.cells #[.int .u8 y.toNat, .int .u8 0] 5)).alloc (.cells #[] 5)) (.slice (some ⟨w2.heap.size + 1, 0, none⟩) 0 0) [] := by
      have h : OwnOf byteV 5 w2.heap.size ((w2.alloc (.cells #[.int .u8 y.toNat, .int .u8 0] 5)).alloc (.cells #[] 5)) (.slice (some ⟨(w2.alloc (.cells #[.int .u8 y.toNat, .int .u8 0] 5)).heap.size, 0, none⟩) 0 0) [] := OwnOf.lit (f := byteV) ([] : List UInt8) (by rw [hs2]; omega) hdec
      rw [hs2] at h
      exact h
    go_region_law (first
      | (refine step_append_row (f := byteV) rfl _ _ 22 rfl w2.heap.size 5 1 _ Try.underlying22 Try.infoB rfl oneB [] L (by first | exact (OwnOf.lit ([] : List UInt8) (Nat.le_refl _) hdec).drew | exact ((OwnOf.lit ([] : List UInt8) (Nat.le_refl _) hdec).alloc _).drew | exact hown3.drew) (by first | exact (hrd.alloc _).drew | exact ((hrd.alloc _).alloc _).drew) (by have := HLM.out; unfold maxLen; simp; omega) (by have := HLM.out; simp; omega) (by first | (simp; done) | (simp; omega)) w2 (by first | exact ((Below.refl _ _).alloc (Nat.le_refl _) _).drew | exact (((Below.refl _ _).alloc (Nat.le_refl _) _).alloc (by simp; done) _).drew) ?_; intro v1 w3 ho1 hbb1 hgg1; have hc3 := (hbb1.cell (p := ⟨g2, m, none⟩) hg2lt).trans hcx; have hgg2 := (by first | exact (show World.grownBy _ w3 (some w2.heap.size) from hgg1) | exact (show World.grownBy _ w3 (some (w2.heap.size + 1)) from hgg1)); clear hgg1)
      | (refine step_append_row (f := byteV) rfl _ _ 22 rfl w2.heap.size 5 1 _ Try.underlying22 Try.infoB rfl oneB ([] ++ L) [y, 0] (by first | exact ho1.alloc _ | exact ho1) (by first | exact bytes_new w3 [y, 0] 5 (0, 0) hd2 | exact hrow2.drew.grown hgg2 (.inr hne2) | exact hrow3.drew.grown hgg2 (.inr hne3)) (by have := HLM.out; unfold maxLen; simp; omega) (by have := HLM.out; simp; omega) (by have := hbb1.size; first | (simp; omega) | omega) w2 (by first | exact hbb1.alloc hbb1.size _ | exact hbb1) ?_; intro v5 w5 ho5 hbb5 _))
    all_goals go_wp2_with fail
    all_goals go_meet
    all_goals exact ⟨by simpa using ho5.row, hb2.trans (hbb5.mono hz2)⟩
  case rest =>
    obtain ⟨hr9, hb9⟩ := hcut
    have hge3 := HG.out
    have HE3 := HE.out
    rw [HML.out] at HE3
    clear hcx hrd hor
    go_wp2_with fail
    refine (Get_any _ _ wc hr9).mono ?_
    rintro e9 w9 ⟨rfl, rfl⟩
    rw [HG.out]
    unfold getV
    clear hge3
    rcases HE3 with rfl | ⟨rfl, hm9⟩
    · go_wp2
      go_ret
      exact ⟨rfl, hb9⟩
    · obtain rfl : m = 9 := by omega
      go_wp2
      go_ret
      exact ⟨rfl, hb9⟩
end Go.Proofs.Ytoccanppfdeggaa
