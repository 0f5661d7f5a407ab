/- The walks of a part, and of Scan and Parse (layer 7). -/
import Derived.Test.YtgkgdmpbcneoiaaDoorQuoD
import Derived.Defers
import Derived.Recover
namespace Go.Proofs.YtgkgdmpbcneoiaaDoor
open Go.RowKit Go.Tab Go.Shelf

/-- What part does at a place where the bytes L stand. -/
def PartE (g : Nat) (s : ByteArray) (w : World) (k : Nat) (l : List UInt8) (L : List Nat) (e : Ending) (w' : World) : Prop :=
  (L.head? = some 34 ∧ OkW g s w (.bool false) (k + 1) l e w') ∨
  (L.head? ≠ some 34 ∧ (partQ L).2.2 = 0 ∧ OkW g s w (.bool true) (k + (partQ L).2.1) (l ++ un (partQ L).1) e w') ∨
  (L.head? ≠ some 34 ∧ (partQ L).2.2 ≠ 0 ∧ BadR g w ((partQ L).2.2 : Nat) e w')

set_option maxHeartbeats 4000000 in
set_option maxRecDepth 100000 in
theorem part_any (w : World) (g : Nat) (s : ByteArray) (k : Nat) (l : List UInt8) (h : RdrAt w g s k l) (hk : k ≤ s.size) (hs : s.size ≤ 100000) (hl : l.length ≤ 1000000) (hT : Tab w) (hg : 0 < g) :
    Calls Tryd.prog 18 #[.pointer (some ⟨g, 0, none⟩)] w (PartE g s w k l ((bs s).drop k)) := by
  cases hq : (bs s).drop k with
  | nil =>
    have hN := fun W h => rnext_nil W g s k l h hk hq (by omega)
    clear hq
    go_enter Tryd.func18, Tryd.ntmps18
    go_wp2_with fail
    refine (hN _ h).mono ?_
    rintro e w1 ⟨rfl, hb1⟩
    go_wp2
    exact ⟨rfl, .inr (.inr ⟨by simp, by simp [partQ, errR], rfl, hb1⟩)⟩
  | cons c r =>
    have hN := fun W h => rnext_cons W g s k l h hq (by omega)
    have hc : c < 256 := bs_lt c (List.mem_of_mem_drop (by rw [hq]; simp))
    obtain ⟨hd1, hd2⟩ := drop_cons hq
    rw [bs_length] at hd2
    by_cases h34 : c = 34
    · subst h34
      clear hq hd1
      go_enter Tryd.func18, Tryd.ntmps18
      go_wp2_with fail
      refine (hN _ h).mono ?_
      rintro e w1 ⟨rfl, hR1, hb1, hB1⟩
      go_wp2
      go_ret
      exact .inl ⟨rfl, rfl, hR1, hb1⟩
    have hhd : (c :: r).head? ≠ some 34 := by simpa using h34
    have b34 : ((c : Int) == 34) = false := by rw [beq_eq_false_iff_ne]; omega
    by_cases h92 : c = 92
    · subst h92
      have hE := fun W h => escape_any W g s k l h (by omega) (by omega) hl
      rw [hd1] at hE
      have HC : Hid (partQ (92 :: r) = escQ r) := Lib.hid (by simp [partQ])
      clear hq hd1 hhd h34
      go_enter Tryd.func18, Tryd.ntmps18
      go_wp2_with fail
      refine (hN _ h).mono ?_
      rintro e w1 ⟨rfl, hR1, hb1, hB1⟩
      go_wp2_with fail
      refine (hE _ hR1).mono ?_
      rintro e w2 (⟨h0, rfl, hR2, hb2, hB2⟩ | ⟨h0, rfl, hb2⟩)
      · have H0 := Lib.hid h0
        clear h0
        go_wp2
        go_ret
        exact .inr (.inl ⟨by simp, by rw [HC.out]; exact H0.out, by rw [HC.out]; exact ⟨rfl, hR2, hb1.trans hb2⟩⟩)
      · have H0 := Lib.hid h0
        clear h0
        go_wp2
        exact ⟨rfl, .inr (.inr ⟨by simp, by rw [HC.out]; exact H0.out, by rw [HC.out]; exact ⟨rfl, hb1.trans hb2⟩⟩)⟩
    have b92 : ((c : Int) == 92) = false := by rw [beq_eq_false_iff_ne]; omega
    by_cases h32 : c < 32
    · have HC : Hid (partQ (c :: r) = errR 3) := Lib.hid (by simp [partQ, h32])
      have HH := Lib.hid hhd
      clear hq hd1 hhd h34 h92
      go_enter Tryd.func18, Tryd.ntmps18
      go_wp2_with fail
      refine (hN _ h).mono ?_
      rintro e w1 ⟨rfl, hR1, hb1, hB1⟩
      go_wp2_with fail
      refine (fail_any 3 _).mono ?_
      rintro e w2 ⟨rfl, rfl⟩
      go_wp2
      exact ⟨rfl, .inr (.inr ⟨HH.out, by rw [HC.out]; simp [errR], by rw [HC.out]; exact ⟨rfl, hb1⟩⟩)⟩
    by_cases h128 : c < 128
    · have HC : Hid (partQ (c :: r) = ([c], 1, 0)) := Lib.hid (by
        simp only [partQ]
        rw [if_neg h32, if_neg h92]
        simp [oneN, h128])
      have HH := Lib.hid hhd
      clear hq hd1 hhd h34 h92
      have h32' : 32 ≤ c := by omega
      clear h32
      go_enter Tryd.func18, Tryd.ntmps18
      go_wp2_with fail
      refine (hN _ h).mono ?_
      rintro e w1 ⟨rfl, hR1, hb1, hB1⟩
      go_wp2_with fail
      refine (rWB w1 g s _ l c _ rfl (by omega) hR1 (by omega)).mono ?_
      rintro e w2 ⟨rfl, hR2, hb2, hB2⟩
      go_wp2
      go_ret
      exact .inr (.inl ⟨HH.out, by rw [HC.out], by rw [HC.out]; exact ⟨rfl, hR2, hb1.trans hb2⟩⟩)
    · have HC : Hid (partQ (c :: r) = if (oneN (c :: r)).2 = 0 then errR 7 else ((c :: r).take (oneN (c :: r)).2, (oneN (c :: r)).2, 0)) := Lib.hid (by
        simp only [partQ]
        rw [if_neg h32, if_neg h92])
      have hS := fun W h hT => scalar_any W g s k l h (by omega) hs hl hT
      rw [hq] at hS
      generalize hcr : c :: r = cr at *
      have HH := Lib.hid hhd
      clear hq hd1 hhd h34 h92 hcr
      have h32' : 128 ≤ c := by omega
      clear h32 h128
      go_enter Tryd.func18, Tryd.ntmps18
      go_wp2_with fail
      refine (hN _ h).mono ?_
      rintro e w1 ⟨rfl, hR1, hb1, hB1⟩
      have hR2 := hR1.moved k
      have hT2 := hT.below (hb1.trans (below_moved g (.int .i64 (k : Int)))) hg
      obtain ⟨cs, hbl, h5, h6, h7⟩ := id hR1
      have c1 := hbl.cells.cell 1 _ h7
      have f1 := hbl.cells.frozen 1
      clear hbl h5 h6 h7
      go_wp2_with fail
      refine (hS _ hR2 hT2).mono ?_
      rintro e w2 (⟨h0, rfl, hR3, hb3⟩ | ⟨h0, rfl, hb3⟩)
      · have H0 := Lib.hid h0
        clear h0
        go_wp2
        go_ret
        exact .inr (.inl ⟨HH.out, by rw [HC.out, if_neg H0.out], by rw [HC.out, if_neg H0.out]; exact ⟨rfl, hR3, (hb1.trans (below_moved g _)).trans hb3⟩⟩)
      · have H0 := Lib.hid h0
        clear h0
        go_wp2
        exact ⟨rfl, .inr (.inr ⟨HH.out, by rw [HC.out, if_pos H0.out]; simp [errR], by rw [HC.out, if_pos H0.out]; exact ⟨rfl, (hb1.trans (below_moved g _)).trans hb3⟩⟩)⟩
end Go.Proofs.YtgkgdmpbcneoiaaDoor
