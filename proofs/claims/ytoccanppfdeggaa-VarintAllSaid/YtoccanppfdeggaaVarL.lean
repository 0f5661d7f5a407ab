/- The walk of VarintAll: it returns true. -/
import Derived.Test.YtoccanppfdeggaaVarK
namespace Go.Proofs.Ytoccanppfdeggaa
open Go.RowKit Go.Tab

theorem nums_of_ints {w : World} {x : Addr} {n c : Nat} {zs : List Int} (hl : n ≤ c) (hm : c ≤ maxLen) (hz : zs.length = c)
    (hcell : ∀ i, i < zs.length → w.cell? (x.add i) = some (.int .u64 (zs.getD i 0))) (hwz : ∀ z ∈ zs, (Lit.int .u64 z).wf = true) :
    ∃ bs : List Nat, RowOf numV w (.slice (some x) n c) bs ∧ ∀ n ∈ bs, n < 18446744073709551616 := by
  have hb : ∀ z ∈ zs, 0 ≤ z ∧ z < 18446744073709551616 := by
    intro z hz
    have h2 := hwz z hz
    rw [Lit.wf, Bool.and_eq_true, decide_eq_true_eq, decide_eq_true_eq] at h2
    have e1 : IntKind.u64.min = 0 := rfl
    have e2 : IntKind.u64.max = 18446744073709551615 := rfl
    omega
  refine ⟨(zs.take n).map Int.toNat, ⟨some x, c, ?_, ?_, hm, (fun h => by cases h), fun y hy hne => ?_⟩, ?_⟩
  · congr 1
    simp [hz, Nat.min_eq_left hl]
  · simp [hz]; omega
  · cases hy
    have hn0 : 0 < zs.length := by
      rcases Nat.eq_zero_or_pos zs.length with h | h
      · simp [List.eq_nil_of_length_eq_zero h] at hne
      · exact h
    have hc := hcell 0 hn0
    obtain ⟨b, off, sp⟩ := x
    have hsp : sp = none := by simpa [Addr.add] using World.cell?_spot hc
    subst hsp
    refine ⟨rfl, World.block_lt_of_cell? w _ hc, fun j hj => ?_⟩
    simp at hj
    have h1 := hcell j (by omega)
    rw [Addr.add_lit] at h1
    rw [h1]
    have hjl : j < zs.length := by omega
    have h3 := hb zs[j] (List.getElem_mem hjl)
    have h4 : zs.getD j 0 = zs[j] := by rw [List.getD_eq_getElem?_getD, List.getElem?_eq_getElem hjl]; rfl
    rw [h4]
    simp only [List.getElem_map, List.getElem_take, numV]
    congr 2
    omega
  · intro k hk
    obtain ⟨z, hz1, rfl⟩ := List.mem_map.1 hk
    have := hb z (List.mem_of_mem_take hz1)
    omega

set_option maxHeartbeats 800000 in
set_option maxRecDepth 100000 in
theorem VarintAll_walk (a0 : Value) (l0 : List UInt8) (a1 : Value) (l1 : List Nat) (a2 : Int) (w : World) (w0 : BytesAt w a0 l0) (w1 : RowOf numV w a1 l1 ∧ ∀ n ∈ l1, n < 18446744073709551616) (w2 : (Lit.int .u8 a2).wf = true) :
    Calls Try.prog 7 #[a0, a1, .int .u8 a2] w fun e w' => e = .returned (.bool true) ∧ Below w.heap.size w w' := by
  obtain ⟨c, rfl, hc⟩ : ∃ n : Nat, a2 = (n : Int) ∧ n < 256 := by
    rw [Lit.wf, Bool.and_eq_true, decide_eq_true_eq, decide_eq_true_eq] at w2
    have e1 : IntKind.u8.min = 0 := rfl
    have e2 : IntKind.u8.max = 255 := rfl
    exact ⟨a2.toNat, by omega, by omega⟩
  clear w2
  obtain ⟨w1, hs⟩ := w1
  have HS := Lib.hid hs
  clear hs
  have hv0 := w0
  have hv1 := w1
  obtain ⟨b0, c0, rfl, hl0, hm0, -⟩ := w0.len
  obtain ⟨b1, c1, rfl, hl1, hm1, -⟩ := w1.len
  unfold maxLen at hm0 hm1
  go_enter Try.func7, Try.ntmps7
  go_wp2_with fail
  refine (vwakes_any w).mono ?_
  rintro e wa ⟨rfl, hba⟩
  have hza := hba.size
  by_cases h1 : l0.length ≤ 300
  · by_cases h2 : l1.length ≤ 60
    · have hv0a := hv0.below hba (Nat.le_refl _)
      go_wp2_with fail
      refine (told_any _ l0 c wa hv0a (by omega)).mono ?_
      rintro e wb ⟨vb, rfl, hrb, hbb⟩
      have hzb := hbb.size
      have hab := hba.trans (hbb.mono hza)
      go_wp2_with fail
      refine (rAll_any _ l0 wb (hv0a.below hbb (Nat.le_refl _)) h1).mono ?_
      rintro e wc ⟨vc, rfl, hoc, hbc⟩
      have hzc := hbc.size
      have hac := hab.trans (hbc.mono (by omega))
      have hrb2 := hrb.below hbc (Nat.le_refl _)
      have hrc := hoc.row
      clear hoc
      go_wp2_with fail
      refine (vsame_any vb vc (nums l0) c wc hrb2 hrc).mono ?_
      rintro e wd ⟨rfl, nd, rfl⟩
      go_wp2_with fail
      refine (List_any _ l1 _ ((hv1.below hac (Nat.le_refl _)).drewN nd) h2 HS.out).mono ?_
      rintro e we ⟨ve, rfl, hoe, hbe⟩
      have hze := hbe.size
      have hre := hoe.row
      clear hoe
      have hpl := putAll_length l1 HS.out
      go_wp2_with fail
      refine (told_any ve (putAll l1) 99 we hre (by omega)).mono ?_
      rintro e wf ⟨vf, rfl, hrf, hbf⟩
      rw [nums_putAll l1 HS.out] at hrf
      have hae : Below w.heap.size w wf := (hac.trans (below_draws _ _ nd)).trans ((hbe.mono (by show w.heap.size ≤ wc.heap.size; omega)).trans (hbf.mono (by have : wc.heap.size ≤ we.heap.size := hze; omega)))
      go_wp2_with fail
      refine (vsame_any vf _ l1 99 wf hrf (hv1.below hae (Nat.le_refl _))).mono ?_
      rintro e wg ⟨rfl, ng, rfl⟩
      go_wp2_with fail
      go_ret
      exact ⟨rfl, hae.trans (below_draws _ _ ng)⟩
    · go_wp2_with fail
      go_ret
      exact ⟨rfl, hba⟩
  · go_wp2_with fail
    go_ret
    exact ⟨rfl, hba⟩
end Go.Proofs.Ytoccanppfdeggaa
