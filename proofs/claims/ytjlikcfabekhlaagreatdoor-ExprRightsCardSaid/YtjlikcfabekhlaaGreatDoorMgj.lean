/- Texts of this claim, one behind the other: QuoI, QuoJ, QuoK, LxS, LxE, LxF, LxU. -/
import Derived.Test.YtjlikcfabekhlaaGreatDoorMga
import Derived.Test.YtjlikcfabekhlaaGreatDoorMgc
import Derived.Test.YtjlikcfabekhlaaGreatDoorMgg
import Derived.Test.YtjlikcfabekhlaaGreatDoorMgh
import Derived.Test.YtjlikcfabekhlaaGreatDoorMgi
import Derived.IntWalk
set_option linter.unusedSimpArgs false
set_option linter.unusedVariables false

/- The walks of the reference's coded parts (layer 7). -/
namespace Go.Proofs.YtjlikcfabekhlaaGreatDoor
open Go.RowKit Go.Tab

/-- The sums of an index, laid for a region that draws its order. -/
theorem lay6 {k n : Nat} (h : k + 6 < n) (hn : n ≤ 100000) : IntKind.i64.wrap ((k : Int) + 6) = (k : Int) + 6 ∧ (0 ≤ (k : Int) + 6 ∧ (k : Int) + 6 < (n : Int)) ∧ ((k : Int) + 6).toNat = k + 6 :=
  ⟨IntWalk.i64_in _ (by omega), by omega, by omega⟩
theorem lay7 {k n : Nat} (h : k + 6 + 1 < n) (hn : n ≤ 100000) : IntKind.i64.wrap ((k : Int) + 6 + 1) = (k : Int) + 6 + 1 ∧ (0 ≤ (k : Int) + 6 + 1 ∧ (k : Int) + 6 + 1 < (n : Int)) ∧ ((k : Int) + 6 + 1).toNat = k + 6 + 1 :=
  ⟨IntWalk.i64_in _ (by omega), by omega, by omega⟩
def partV (q : PartR) : Value := .agg #[.string (strOf (un q.1)), .int .i64 (q.2.1 : Int), .int .i64 (q.2.2 : Int)]

set_option maxHeartbeats 4000000 in
set_option maxRecDepth 100000 in
theorem rcoded_any (s : ByteArray) (k : Nat) (w : World) (hk : k + 2 ≤ s.size) (hs : s.size ≤ 100000) :
    Calls Tryz.prog 129 #[.string s, .int .i64 (k : Int)] w fun e w' => e = .returned (partV (codedQ ((bs s).drop (k + 2)))) ∧ Below w.heap.size w w' := by
  have h4 := fun W => runit_any s (k + 2) W hk (by omega)
  obtain ⟨r, hr⟩ : ∃ r, r = (bs s).drop (k + 2) := ⟨_, rfl⟩
  rw [← hr] at h4 ⊢
  simp only [Int.natCast_add, Int.cast_ofNat_Int] at h4
  by_cases hu : (unitQ r).2 = 0
  · obtain ⟨hv1, hv2⟩ := unitQ_val hu
    obtain ⟨n, hn⟩ : ∃ n, n = (unitQ r).1 := ⟨_, rfl⟩
    have hlen : k + 6 ≤ s.size := by rw [hr] at hv1; simp [bs_length] at hv1; omega
    rw [← hn] at hv2 h4
    rw [hu] at h4
    simp only [Int.cast_ofNat_Int] at h4
    by_cases h1 : 56320 ≤ n ∧ n ≤ 57343
    · have HC : Hid (codedQ r = errR 3) := Lib.hid (by unfold codedQ; rw [if_neg (by simp [hu]), if_pos (by rw [← hn]; exact h1)])
      have b1 : decide ((56320 : Int) ≤ (n : Int)) = true := by simp; omega
      have b2 : decide ((n : Int) ≤ 57343) = true := by simp; omega
      clear hu hn hr hv1 h1 hv2
      go_enter Tryz.func129, Tryz.ntmps129
      go_wp2_with fail
      refine (h4 _).mono ?_
      rintro e w1 ⟨rfl, rfl⟩
      go_wp2
      refine bodyPost_ret (v := partV (errR 3)) (by simp [results, Tryz.results129, go_sem, partV, errR, un, strOf]) rfl ⟨by rw [HC.out], ?_⟩
      (repeat' (first | (with_reducible refine Below.setCell ?_ ?_ _) | (with_reducible refine Below.alloc ?_ ?_ _) | (with_reducible refine Below.drew ?_) | (with_reducible refine below_drewN ?_ _) | (with_reducible assumption) | (with_reducible exact Below.refl _ _) | (simp only [World.size_alloc, World.size_setCell, World.size_drew]; done) | (simp only [World.size_alloc, World.size_setCell, World.size_drew]; omega) | omega))
    · by_cases h2 : n < 55296 ∨ 57343 < n
      · have HC : Hid (codedQ r = (putN n, 6, 0)) := Lib.hid (by unfold codedQ; rw [if_neg (by simp [hu]), if_neg (by rw [← hn]; exact h1), if_pos (by rw [← hn]; exact h2), ← hn])
        have hsc : isScI (n : Int) = true := by rw [isScI_nat, isSc_iff]; omega
        have hP := fun W => rPut_any (n : Int) W
        unfold rputL at hP
        rw [if_pos hsc, Int.toNat_natCast] at hP
        have h2' : (decide ((56320 : Int) ≤ (n : Int)) = false ∧ decide ((n : Int) < 55296) = true) ∨ (decide ((56320 : Int) ≤ (n : Int)) = true ∧ decide ((n : Int) ≤ 57343) = false ∧ decide ((n : Int) < 55296) = false ∧ decide ((57343 : Int) < (n : Int)) = true) := by
          rcases h2 with h2 | h2
          · exact .inl ⟨by simp; omega, by simp; omega⟩
          · exact .inr ⟨by simp; omega, by simp; omega, by simp; omega, by simp; omega⟩
        clear hu hn hr hv1 h2 hv2 hsc h1
        obtain ⟨S, hS⟩ : ∃ S, S = strOf (putU n) := ⟨_, rfl⟩
        rw [← hS] at hP
        have HS := Lib.hid hS
        clear hS
        rcases h2' with ⟨b1, b2⟩ | ⟨b1, b2, b3, b4⟩
        all_goals
          go_enter Tryz.func129, Tryz.ntmps129
          go_wp2_with fail
          refine (h4 _).mono ?_
          rintro e w1 ⟨rfl, rfl⟩
          go_wp2_with fail
          refine (hP _).mono ?_
          rintro e w2 ⟨rfl, hb2⟩
          have hz2 := hb2.size
          simp only [World.size_alloc] at hz2
          have hx2 := (Cells.new w #[.string ⟨#[]⟩, .int .i64 0, .int .i64 0] 110).below hb2 (by simp)
          have hx2c0 := hx2.cell 0 _ rfl
          have hx2f0 := hx2.frozen 0
          have hx2c1 := hx2.cell 1 _ rfl
          have hx2f1 := hx2.frozen 1
          have hx2c2 := hx2.cell 2 _ rfl
          have hx2f2 := hx2.frozen 2
          have hb3 : Below w.heap.size w w2 := ((Below.refl _ w).alloc (Nat.le_refl _) _).trans (hb2.mono (by simp))
          go_wp2
          refine bodyPost_ret (v := .agg #[.string S, .int .i64 6, .int .i64 0]) (by simp [results, Tryz.results129, go_sem, *]) rfl ⟨by rw [HC.out, HS.out]; rfl, ?_⟩
          (repeat' (first | (with_reducible refine Below.setCell ?_ ?_ _) | (with_reducible refine Below.alloc ?_ ?_ _) | (with_reducible refine Below.drew ?_) | (with_reducible refine below_drewN ?_ _) | (with_reducible assumption) | (with_reducible exact Below.refl _ _) | (simp only [World.size_alloc, World.size_setCell, World.size_drew]; done) | (simp only [World.size_alloc, World.size_setCell, World.size_drew]; omega) | omega))
      · have HC0 : Hid (codedQ r = lowQ n (r.drop 4)) := Lib.hid (by unfold codedQ; rw [if_neg (by simp [hu]), if_neg (by rw [← hn]; exact h1), if_neg (by rw [← hn]; exact h2), ← hn])
        have hr4 : r.drop 4 = (bs s).drop (k + 6) := by rw [hr, List.drop_drop]
        have hn3 : 55296 ≤ n ∧ n ≤ 56319 := by omega
        have b1 : decide ((56320 : Int) ≤ (n : Int)) = false := by simp; omega
        have b2 : decide ((n : Int) < 55296) = false := by simp; omega
        have b3 : decide ((57343 : Int) < (n : Int)) = false := by simp; omega
        have HN3 := Lib.hid hn3
        have HR := Lib.hid hr
        clear hu hn hv1 h1 h2 hv2 hr hn3
        cases hq : (bs s).drop (k + 6) with
        | nil =>
          have HC : Hid (codedQ r = errR 2) := Lib.hid (by rw [HC0.out, hr4, hq]; rfl)
          have hz := drop_nil_iff hlen hq
          have hz' : s.size ≤ k + 6 := by omega
          clear hq hr4 hz
          go_enter Tryz.func129, Tryz.ntmps129
          go_wp2_with fail
          refine (h4 _).mono ?_
          rintro e w1 ⟨rfl, rfl⟩
          go_wp2_with fail
          clear b1 b2 b3 h4
          refine wp_loop_rounds 1 ?_
          rw [rounds_succ]
          go_wp2
          refine bodyPost_ret (v := partV (errR 2)) (by simp [results, Tryz.results129, go_sem, partV, errR, un, strOf]) rfl ⟨by rw [HC.out], ?_⟩
          (repeat' (first | (with_reducible refine Below.setCell ?_ ?_ _) | (with_reducible refine Below.alloc ?_ ?_ _) | (with_reducible refine Below.drew ?_) | (with_reducible refine below_drewN ?_ _) | (with_reducible assumption) | (with_reducible exact Below.refl _ _) | (simp only [World.size_alloc, World.size_setCell, World.size_drew]; done) | (simp only [World.size_alloc, World.size_setCell, World.size_drew]; omega) | omega))
        | cons c t =>
          obtain ⟨hlt, hbv⟩ := bs_fact hq
          have hc : c < 256 := bs_lt c (List.mem_of_mem_drop (by rw [hq]; simp))
          have hlen2 : k + 6 < s.size := hlt
          by_cases hc92 : c = 92
          · subst hc92
            obtain ⟨hd, hd2⟩ := drop_cons hq
            rw [bs_length] at hd2
            have hrt : r.drop 4 = 92 :: t := by rw [hr4, hq]
            cases ht : t with
            | nil =>
              have HC : Hid (codedQ r = errR 2) := Lib.hid (by rw [HC0.out, hrt, ht]; rfl)
              have hz := drop_nil_iff (show k + 6 + 1 ≤ s.size by omega) (by rw [← ht]; exact hd)
              have hz' : s.size ≤ k + 6 + 1 := by omega
              clear hq hr4 hrt ht hd hz
              go_enter Tryz.func129, Tryz.ntmps129
              go_wp2_with fail
              refine (h4 _).mono ?_
              rintro e w1 ⟨rfl, rfl⟩
              go_wp2_with fail
              clear b1 b2 b3 h4
              refine wp_loop_rounds 2 ?_
              rw [rounds_succ]
              go_wp2_with fail
              obtain ⟨g1, g2, g3⟩ := lay6 hlen2 hs
              go_region
              clear g1 g2 g3
              go_wp2_with fail
              rw [rounds_succ]
              go_wp2
              refine bodyPost_ret (v := partV (errR 2)) (by simp [results, Tryz.results129, go_sem, partV, errR, un, strOf]) rfl ⟨by rw [HC.out], ?_⟩
              (repeat' (first | (with_reducible refine Below.setCell ?_ ?_ _) | (with_reducible refine Below.alloc ?_ ?_ _) | (with_reducible refine Below.drew ?_) | (with_reducible refine below_drewN ?_ _) | (with_reducible assumption) | (with_reducible exact Below.refl _ _) | (simp only [World.size_alloc, World.size_setCell, World.size_drew]; done) | (simp only [World.size_alloc, World.size_setCell, World.size_drew]; omega) | omega))
            | cons d u =>
              subst ht
              obtain ⟨hlt2, hbv2⟩ := bs_fact hd
              have hdl : d < 256 := bs_lt d (List.mem_of_mem_drop (by rw [hd]; simp))
              obtain ⟨he, he2⟩ := drop_cons hd
              rw [bs_length] at he2
              have hlen3 : k + 6 + 1 < s.size := hlt2
              by_cases hd117 : d = 117
              · subst hd117
                have hF := fun W => runit_any s (k + 8) W (by omega) (by omega)
                rw [show (bs s).drop (k + 8) = u from he] at hF
                simp only [Int.natCast_add, Int.cast_ofNat_Int] at hF
                clear hq hr4 he hd
                obtain ⟨x, hx⟩ : ∃ x, x = unitQ u := ⟨_, rfl⟩
                rw [← hx] at hF
                obtain ⟨m, x2⟩ := x
                simp only at hF
                by_cases hm : x2 = 0
                · subst hm
                  have hm0 : (unitQ u).2 = 0 := by rw [← hx]
                  obtain ⟨hv3, hv4⟩ := unitQ_val hm0
                  have hmm : m = (unitQ u).1 := by rw [← hx]
                  rw [← hmm] at hv4
                  by_cases hlow : m < 56320 ∨ 57343 < m
                  · have HC : Hid (codedQ r = errR 3) := Lib.hid (by rw [HC0.out, hrt]; simp only [lowQ]; rw [if_neg (by simp), if_neg (by simp), if_neg (by simp [hm0]), if_pos (by rw [← hmm]; exact hlow)])
                    have hlow2 : (decide ((m : Int) < 56320) = true) ∨ (decide ((m : Int) < 56320) = false ∧ decide ((57343 : Int) < (m : Int)) = true) := by
                      rcases hlow with hlow | hlow
                      · exact .inl (by simp; omega)
                      · exact .inr ⟨by simp; omega, by simp; omega⟩
                    have HLOW := Lib.hid hlow2
                    clear hrt hm0 hmm hlow hlow2 hv4 hv3 hx
                    go_enter Tryz.func129, Tryz.ntmps129
                    go_wp2_with fail
                    refine (h4 _).mono ?_
                    rintro e w1 ⟨rfl, rfl⟩
                    go_wp2_with fail
                    clear b1 b2 b3 h4
                    refine wp_loop_rounds 3 ?_
                    rw [rounds_succ]
                    go_wp2_with fail
                    obtain ⟨g1, g2, g3⟩ := lay6 hlen2 hs
                    go_region
                    clear g1 g2 g3
                    go_wp2_with fail
                    rw [rounds_succ]
                    go_wp2_with fail
                    obtain ⟨g1, g2, g3⟩ := lay7 hlen3 hs
                    go_region
                    clear g1 g2 g3
                    go_wp2_with fail
                    rw [rounds_succ]
                    go_wp2_with fail
                    refine (hF _).mono ?_
                    rintro e w2 ⟨rfl, rfl⟩
                    clear hF
                    rcases HLOW.out with hlow | ⟨hlow, hlow2⟩
                    all_goals
                      go_wp2
                      refine bodyPost_ret (v := partV (errR 3)) (by simp [results, Tryz.results129, go_sem, partV, errR, un, strOf]) rfl ⟨by rw [HC.out], ?_⟩
                      (repeat' (first | (with_reducible refine Below.setCell ?_ ?_ _) | (with_reducible refine Below.alloc ?_ ?_ _) | (with_reducible refine Below.drew ?_) | (with_reducible refine below_drewN ?_ _) | (with_reducible assumption) | (with_reducible exact Below.refl _ _) | (simp only [World.size_alloc, World.size_setCell, World.size_drew]; done) | (simp only [World.size_alloc, World.size_setCell, World.size_drew]; omega) | omega))
                  · obtain ⟨x, hx9⟩ : ∃ x, x = 65536 + (n - 55296) * 1024 + (m - 56320) := ⟨_, rfl⟩
                    have HC : Hid (codedQ r = (putN x, 12, 0)) := Lib.hid (by rw [HC0.out, hrt]; simp only [lowQ]; rw [if_neg (by simp), if_neg (by simp), if_neg (by simp [hm0]), if_neg (by rw [← hmm]; exact hlow), hx9, hmm])
                    have hn3 := HN3.out
                    have hsc : isScI (x : Int) = true := by rw [isScI_nat, isSc_iff]; omega
                    have hP := fun W => rPut_any (x : Int) W
                    unfold rputL at hP
                    rw [if_pos hsc, Int.toNat_natCast] at hP
                    obtain ⟨S, hS⟩ : ∃ S, S = strOf (putU x) := ⟨_, rfl⟩
                    rw [← hS] at hP
                    have HS := Lib.hid hS
                    have E1 := Lib.hid (And.intro (show (0 : Int) ≤ (n : Int) - 55296 ∧ (n : Int) - 55296 ≤ 1023 by omega) (And.intro (show (0 : Int) ≤ (m : Int) ∧ (m : Int) ≤ 65535 by omega) (show (65536 : Int) + ((n : Int) - 55296) * 1024 + (m : Int) - 56320 = (x : Int) by omega)))
                    have HD := Lib.hid (And.intro (show decide ((m : Int) < 56320) = false by simp; omega) (show decide ((57343 : Int) < (m : Int)) = false by simp; omega))
                    clear hrt hm0 hmm hlow hv4 hv3 hx hx9 hS hsc hn3
                    go_enter Tryz.func129, Tryz.ntmps129
                    go_wp2_with fail
                    refine (h4 _).mono ?_
                    rintro e w1 ⟨rfl, rfl⟩
                    go_wp2_with fail
                    clear b1 b2 b3 h4
                    refine wp_loop_rounds 3 ?_
                    rw [rounds_succ]
                    go_wp2_with fail
                    obtain ⟨g1, g2, g3⟩ := lay6 hlen2 hs
                    go_region
                    clear g1 g2 g3
                    go_wp2_with fail
                    rw [rounds_succ]
                    go_wp2_with fail
                    obtain ⟨g1, g2, g3⟩ := lay7 hlen3 hs
                    go_region
                    clear g1 g2 g3
                    go_wp2_with fail
                    rw [rounds_succ]
                    go_wp2_with fail
                    refine (hF _).mono ?_
                    rintro e w2 ⟨rfl, rfl⟩
                    clear hF
                    obtain ⟨d1, d2⟩ := HD.out
                    obtain ⟨e1, e2, hxi⟩ := E1.out
                    go_wp2_with fail
                    refine (hP _).mono ?_
                    rintro e w2 ⟨rfl, hb2⟩
                    clear d1 d2 e1 e2 hxi hP
                    have hz2 := hb2.size
                    simp only [World.size_alloc, World.size_drew] at hz2
                    have hx2 := ((((Cells.new w #[.string ⟨#[]⟩, .int .i64 0, .int .i64 0] 110).alloc (.cells #[.int .u8 92, .int .u8 117] 5)).drew.alloc (.cells #[.int .u8 92, .int .u8 117] 5)).drew).below hb2 (by simp; omega)
                    have hx2c0 := hx2.cell 0 _ rfl
                    have hx2f0 := hx2.frozen 0
                    have hx2c1 := hx2.cell 1 _ rfl
                    have hx2f1 := hx2.frozen 1
                    have hx2c2 := hx2.cell 2 _ rfl
                    have hx2f2 := hx2.frozen 2
                    have hb3 : Below w.heap.size w w2 := ((((((Below.refl _ w).alloc (Nat.le_refl _) _).alloc (by simp) _).drew).alloc (by simp; omega) _).drew).trans (hb2.mono (by simp; omega))
                    go_wp2
                    refine bodyPost_ret (v := .agg #[.string S, .int .i64 12, .int .i64 0]) (by simp [results, Tryz.results129, go_sem, *]) rfl ⟨by rw [HC.out, HS.out]; rfl, ?_⟩
                    (repeat' (first | (with_reducible refine Below.setCell ?_ ?_ _) | (with_reducible refine Below.alloc ?_ ?_ _) | (with_reducible refine Below.drew ?_) | (with_reducible refine below_drewN ?_ _) | (with_reducible assumption) | (with_reducible exact Below.refl _ _) | (simp only [World.size_alloc, World.size_setCell, World.size_drew]; done) | (simp only [World.size_alloc, World.size_setCell, World.size_drew]; omega) | omega))
                · have hm0 : (unitQ u).2 ≠ 0 := by rw [← hx]; exact hm
                  have HC : Hid (codedQ r = errR x2) := Lib.hid (by rw [HC0.out, hrt]; simp only [lowQ]; rw [if_neg (by simp), if_neg (by simp), if_pos hm0, ← hx])
                  have hbe : ((x2 : Int) != 0) = true := by rw [bne_iff_ne]; omega
                  clear hrt hm0 hm hx
                  go_enter Tryz.func129, Tryz.ntmps129
                  go_wp2_with fail
                  refine (h4 _).mono ?_
                  rintro e w1 ⟨rfl, rfl⟩
                  go_wp2_with fail
                  clear b1 b2 b3 h4
                  refine wp_loop_rounds 3 ?_
                  rw [rounds_succ]
                  go_wp2_with fail
                  obtain ⟨g1, g2, g3⟩ := lay6 hlen2 hs
                  go_region
                  clear g1 g2 g3
                  go_wp2_with fail
                  rw [rounds_succ]
                  go_wp2_with fail
                  obtain ⟨g1, g2, g3⟩ := lay7 hlen3 hs
                  go_region
                  clear g1 g2 g3
                  go_wp2_with fail
                  rw [rounds_succ]
                  go_wp2_with fail
                  refine (hF _).mono ?_
                  rintro e w2 ⟨rfl, rfl⟩
                  go_wp2
                  refine bodyPost_ret (v := partV (errR x2)) (by simp [results, Tryz.results129, go_sem, partV, errR, un, strOf]) rfl ⟨by rw [HC.out], ?_⟩
                  (repeat' (first | (with_reducible refine Below.setCell ?_ ?_ _) | (with_reducible refine Below.alloc ?_ ?_ _) | (with_reducible refine Below.drew ?_) | (with_reducible refine below_drewN ?_ _) | (with_reducible assumption) | (with_reducible exact Below.refl _ _) | (simp only [World.size_alloc, World.size_setCell, World.size_drew]; done) | (simp only [World.size_alloc, World.size_setCell, World.size_drew]; omega) | omega))
              · have HC : Hid (codedQ r = errR 3) := Lib.hid (by rw [HC0.out, hrt]; simp only [lowQ]; rw [if_neg (by simp), if_pos (by simpa using hd117)])
                have hbd : ((d : Int) != 117) = true := by rw [bne_iff_ne]; omega
                clear hq hr4 hrt hd he hd117
                go_enter Tryz.func129, Tryz.ntmps129
                go_wp2_with fail
                refine (h4 _).mono ?_
                rintro e w1 ⟨rfl, rfl⟩
                go_wp2_with fail
                clear b1 b2 b3 h4
                refine wp_loop_rounds 2 ?_
                rw [rounds_succ]
                go_wp2_with fail
                obtain ⟨g1, g2, g3⟩ := lay6 hlen2 hs
                go_region
                clear g1 g2 g3
                go_wp2_with fail
                rw [rounds_succ]
                go_wp2_with fail
                obtain ⟨g1, g2, g3⟩ := lay7 hlen3 hs
                go_region
                clear g1 g2 g3
                go_wp2
                refine bodyPost_ret (v := partV (errR 3)) (by simp [results, Tryz.results129, go_sem, partV, errR, un, strOf]) rfl ⟨by rw [HC.out], ?_⟩
                (repeat' (first | (with_reducible refine Below.setCell ?_ ?_ _) | (with_reducible refine Below.alloc ?_ ?_ _) | (with_reducible refine Below.drew ?_) | (with_reducible refine below_drewN ?_ _) | (with_reducible assumption) | (with_reducible exact Below.refl _ _) | (simp only [World.size_alloc, World.size_setCell, World.size_drew]; done) | (simp only [World.size_alloc, World.size_setCell, World.size_drew]; omega) | omega))
          · have HC : Hid (codedQ r = errR 3) := Lib.hid (by rw [HC0.out, hr4, hq]; simp only [lowQ]; rw [if_pos (by simpa using hc92)])
            have hbc : ((c : Int) != 92) = true := by rw [bne_iff_ne]; omega
            clear hq hr4 hc92
            go_enter Tryz.func129, Tryz.ntmps129
            go_wp2_with fail
            refine (h4 _).mono ?_
            rintro e w1 ⟨rfl, rfl⟩
            go_wp2_with fail
            clear b1 b2 b3 h4
            refine wp_loop_rounds 1 ?_
            rw [rounds_succ]
            go_wp2_with fail
            obtain ⟨g1, g2, g3⟩ := lay6 hlen2 hs
            go_region
            clear g1 g2 g3
            go_wp2
            refine bodyPost_ret (v := partV (errR 3)) (by simp [results, Tryz.results129, go_sem, partV, errR, un, strOf]) rfl ⟨by rw [HC.out], ?_⟩
            (repeat' (first | (with_reducible refine Below.setCell ?_ ?_ _) | (with_reducible refine Below.alloc ?_ ?_ _) | (with_reducible refine Below.drew ?_) | (with_reducible refine below_drewN ?_ _) | (with_reducible assumption) | (with_reducible exact Below.refl _ _) | (simp only [World.size_alloc, World.size_setCell, World.size_drew]; done) | (simp only [World.size_alloc, World.size_setCell, World.size_drew]; omega) | omega))
  · have HC : Hid (codedQ r = errR (unitQ r).2) := Lib.hid (by unfold codedQ; rw [if_pos (by simpa using hu)])
    obtain ⟨x, hx⟩ : ∃ x, x = unitQ r := ⟨_, rfl⟩
    rw [← hx] at h4 hu HC
    obtain ⟨x1, x2⟩ := x
    simp only at h4 hu HC
    have hbe : ((x2 : Int) != 0) = true := by rw [bne_iff_ne]; omega
    have HR := Lib.hid hr
    clear hu hx hr
    go_enter Tryz.func129, Tryz.ntmps129
    go_wp2_with fail
    refine (h4 _).mono ?_
    rintro e w1 ⟨rfl, rfl⟩
    go_wp2
    refine bodyPost_ret (v := partV (errR x2)) (by simp [results, Tryz.results129, go_sem, partV, errR, un, strOf]) rfl ⟨by rw [HC.out], ?_⟩
    (repeat' (first | (with_reducible refine Below.setCell ?_ ?_ _) | (with_reducible refine Below.alloc ?_ ?_ _) | (with_reducible refine Below.drew ?_) | (with_reducible refine below_drewN ?_ _) | (with_reducible assumption) | (with_reducible exact Below.refl _ _) | (simp only [World.size_alloc, World.size_setCell, World.size_drew]; done) | (simp only [World.size_alloc, World.size_setCell, World.size_drew]; omega) | omega))
end Go.Proofs.YtjlikcfabekhlaaGreatDoor

/- The walks of the reference's parts (layer 7). -/
namespace Go.Proofs.YtjlikcfabekhlaaGreatDoor
open Go.RowKit Go.Tab

theorem bs_un {l : List Nat} (h : Byt l) : bs (strOf (un l)) = l := by
  rw [bs_strOf]
  unfold un
  rw [List.map_map]
  conv => rhs; rw [← List.map_id l]
  refine List.map_congr_left fun x hx => ?_
  have := h x hx
  simp only [Function.comp, UInt8.toNat_ofNat', id]
  omega
theorem ext_str (s : ByteArray) (a b : Nat) : s.extract a b = strOf (un (((bs s).drop a).take (b - a))) := by
  refine bs_inj ?_
  rw [bs_un (fun x hx => bs_lt x (List.mem_of_mem_drop (List.mem_of_mem_take hx)))]
  rw [bs_extract, List.drop_take]


set_option maxHeartbeats 4000000 in
set_option maxRecDepth 100000 in
theorem rpart_any (s : ByteArray) (k : Nat) (w : World) (hk : k ≤ s.size) (hs : s.size ≤ 100000) :
    Calls Tryz.prog 94 #[.string s, .int .i64 (k : Int)] w fun e w' => e = .returned (partV (partQ ((bs s).drop k))) ∧ Below w.heap.size w w' := by
  cases hq : (bs s).drop k with
  | nil =>
    have HC : Hid (partQ [] = errR 2) := Lib.hid rfl
    have hz := drop_nil_iff hk hq
    have hz' : s.size ≤ k := by omega
    clear hq hz
    go_enter Tryz.func94, Tryz.ntmps94
    go_wp2
    refine bodyPost_ret (v := partV (errR 2)) (by simp [results, Tryz.results94, go_sem, partV, errR, un, strOf]) rfl ⟨by rw [HC.out], ?_⟩
    (repeat' (first | (with_reducible refine Below.setCell ?_ ?_ _) | (with_reducible refine Below.alloc ?_ ?_ _) | (with_reducible refine Below.drew ?_) | (with_reducible refine below_drewN ?_ _) | (with_reducible assumption) | (with_reducible exact Below.refl _ _) | (simp only [World.size_alloc, World.size_setCell, World.size_drew]; done) | (simp only [World.size_alloc, World.size_setCell, World.size_drew]; omega) | omega))
  | cons c r =>
    obtain ⟨hlt, hbv⟩ := bs_fact hq
    have hlt' : k < s.size := hlt
    have hc : c < 256 := bs_lt c (List.mem_of_mem_drop (by rw [hq]; simp))
    by_cases h32 : c < 32
    · have HC : Hid (partQ (c :: r) = errR 3) := Lib.hid (by simp [partQ, h32])
      clear hq
      go_enter Tryz.func94, Tryz.ntmps94
      go_wp2
      refine bodyPost_ret (v := partV (errR 3)) (by simp [results, Tryz.results94, go_sem, partV, errR, un, strOf]) rfl ⟨by rw [HC.out], ?_⟩
      (repeat' (first | (with_reducible refine Below.setCell ?_ ?_ _) | (with_reducible refine Below.alloc ?_ ?_ _) | (with_reducible refine Below.drew ?_) | (with_reducible refine below_drewN ?_ _) | (with_reducible assumption) | (with_reducible exact Below.refl _ _) | (simp only [World.size_alloc, World.size_setCell, World.size_drew]; done) | (simp only [World.size_alloc, World.size_setCell, World.size_drew]; omega) | omega))
    have h32' : 32 ≤ c := by omega
    by_cases h92 : c = 92
    · subst h92
      obtain ⟨hd1, hd2⟩ := drop_cons hq
      rw [bs_length] at hd2
      clear h32 h32'
      cases ht : r with
      | nil =>
        have HC : Hid (partQ [92] = errR 2) := Lib.hid rfl
        have hz := drop_nil_iff (show k + 1 ≤ s.size by omega) (by rw [← ht]; exact hd1)
        have hz' : s.size ≤ k + 1 := by omega
        clear hq hd1 hz ht
        go_enter Tryz.func94, Tryz.ntmps94
        go_wp2
        refine bodyPost_ret (v := partV (errR 2)) (by simp [results, Tryz.results94, go_sem, partV, errR, un, strOf]) rfl ⟨by rw [HC.out], ?_⟩
        (repeat' (first | (with_reducible refine Below.setCell ?_ ?_ _) | (with_reducible refine Below.alloc ?_ ?_ _) | (with_reducible refine Below.drew ?_) | (with_reducible refine below_drewN ?_ _) | (with_reducible assumption) | (with_reducible exact Below.refl _ _) | (simp only [World.size_alloc, World.size_setCell, World.size_drew]; done) | (simp only [World.size_alloc, World.size_setCell, World.size_drew]; omega) | omega))
      | cons d u =>
        subst ht
        obtain ⟨hlt2, hbv2⟩ := bs_fact hd1
        have hlt2' : k + 1 < s.size := hlt2
        have hdl : d < 256 := bs_lt d (List.mem_of_mem_drop (by rw [hd1]; simp))
        have hcd := fun W => rcoded_any s k W (by omega) hs
        rw [show (bs s).drop (k + 2) = u from (drop_cons hd1).1] at hcd
        have hbd : (0 : Int) ≤ (k : Int) + 1 ∧ (k : Int) + 1 < (s.size : Int) := by omega
        obtain ⟨L, hL⟩ : ∃ L, L = 92 :: d :: u := ⟨_, rfl⟩
        rw [← hL]
        have hx : s.extract (k + 1) (k + 2) = strOf (un [d]) := by rw [ext_str, show k + 2 - (k + 1) = 1 by omega, hd1]; rfl
        have HX := Lib.hid hx
        clear hq hd1 hx
        by_cases hc34 : d = 34
        · subst hc34
          have HC : Hid (partQ L = ([34], 2, 0)) := Lib.hid (by rw [hL]; rfl)
          clear hL
          go_enter Tryz.func94, Tryz.ntmps94
          go_wp2
          refine bodyPost_ret (v := .agg #[.string (s.extract (k + 1) (k + 2)), .int .i64 2, .int .i64 0]) (by simp [results, Tryz.results94, go_sem]) rfl ⟨by rw [HC.out, HX.out]; rfl, ?_⟩
          (repeat' (first | (with_reducible refine Below.setCell ?_ ?_ _) | (with_reducible refine Below.alloc ?_ ?_ _) | (with_reducible refine Below.drew ?_) | (with_reducible refine below_drewN ?_ _) | (with_reducible assumption) | (with_reducible exact Below.refl _ _) | (simp only [World.size_alloc, World.size_setCell, World.size_drew]; done) | (simp only [World.size_alloc, World.size_setCell, World.size_drew]; omega) | omega))
        by_cases hc92 : d = 92
        · subst hc92
          have HC : Hid (partQ L = ([92], 2, 0)) := Lib.hid (by rw [hL]; rfl)
          clear hL
          go_enter Tryz.func94, Tryz.ntmps94
          go_wp2
          refine bodyPost_ret (v := .agg #[.string (s.extract (k + 1) (k + 2)), .int .i64 2, .int .i64 0]) (by simp [results, Tryz.results94, go_sem]) rfl ⟨by rw [HC.out, HX.out]; rfl, ?_⟩
          (repeat' (first | (with_reducible refine Below.setCell ?_ ?_ _) | (with_reducible refine Below.alloc ?_ ?_ _) | (with_reducible refine Below.drew ?_) | (with_reducible refine below_drewN ?_ _) | (with_reducible assumption) | (with_reducible exact Below.refl _ _) | (simp only [World.size_alloc, World.size_setCell, World.size_drew]; done) | (simp only [World.size_alloc, World.size_setCell, World.size_drew]; omega) | omega))
        by_cases hc47 : d = 47
        · subst hc47
          have HC : Hid (partQ L = ([47], 2, 0)) := Lib.hid (by rw [hL]; rfl)
          clear hL
          go_enter Tryz.func94, Tryz.ntmps94
          go_wp2
          refine bodyPost_ret (v := .agg #[.string (s.extract (k + 1) (k + 2)), .int .i64 2, .int .i64 0]) (by simp [results, Tryz.results94, go_sem]) rfl ⟨by rw [HC.out, HX.out]; rfl, ?_⟩
          (repeat' (first | (with_reducible refine Below.setCell ?_ ?_ _) | (with_reducible refine Below.alloc ?_ ?_ _) | (with_reducible refine Below.drew ?_) | (with_reducible refine below_drewN ?_ _) | (with_reducible assumption) | (with_reducible exact Below.refl _ _) | (simp only [World.size_alloc, World.size_setCell, World.size_drew]; done) | (simp only [World.size_alloc, World.size_setCell, World.size_drew]; omega) | omega))
        by_cases hc98 : d = 98
        · subst hc98
          have HC : Hid (partQ L = ([8], 2, 0)) := Lib.hid (by rw [hL]; rfl)
          clear hL
          go_enter Tryz.func94, Tryz.ntmps94
          go_wp2
          refine bodyPost_ret (v := partV ([8], 2, 0)) (by simp [results, Tryz.results94, go_sem, partV, errR, un, strOf]) rfl ⟨by rw [HC.out], ?_⟩
          (repeat' (first | (with_reducible refine Below.setCell ?_ ?_ _) | (with_reducible refine Below.alloc ?_ ?_ _) | (with_reducible refine Below.drew ?_) | (with_reducible refine below_drewN ?_ _) | (with_reducible assumption) | (with_reducible exact Below.refl _ _) | (simp only [World.size_alloc, World.size_setCell, World.size_drew]; done) | (simp only [World.size_alloc, World.size_setCell, World.size_drew]; omega) | omega))
        by_cases hc102 : d = 102
        · subst hc102
          have HC : Hid (partQ L = ([12], 2, 0)) := Lib.hid (by rw [hL]; rfl)
          clear hL
          go_enter Tryz.func94, Tryz.ntmps94
          go_wp2
          refine bodyPost_ret (v := partV ([12], 2, 0)) (by simp [results, Tryz.results94, go_sem, partV, errR, un, strOf]) rfl ⟨by rw [HC.out], ?_⟩
          (repeat' (first | (with_reducible refine Below.setCell ?_ ?_ _) | (with_reducible refine Below.alloc ?_ ?_ _) | (with_reducible refine Below.drew ?_) | (with_reducible refine below_drewN ?_ _) | (with_reducible assumption) | (with_reducible exact Below.refl _ _) | (simp only [World.size_alloc, World.size_setCell, World.size_drew]; done) | (simp only [World.size_alloc, World.size_setCell, World.size_drew]; omega) | omega))
        by_cases hc110 : d = 110
        · subst hc110
          have HC : Hid (partQ L = ([10], 2, 0)) := Lib.hid (by rw [hL]; rfl)
          clear hL
          go_enter Tryz.func94, Tryz.ntmps94
          go_wp2
          refine bodyPost_ret (v := partV ([10], 2, 0)) (by simp [results, Tryz.results94, go_sem, partV, errR, un, strOf]) rfl ⟨by rw [HC.out], ?_⟩
          (repeat' (first | (with_reducible refine Below.setCell ?_ ?_ _) | (with_reducible refine Below.alloc ?_ ?_ _) | (with_reducible refine Below.drew ?_) | (with_reducible refine below_drewN ?_ _) | (with_reducible assumption) | (with_reducible exact Below.refl _ _) | (simp only [World.size_alloc, World.size_setCell, World.size_drew]; done) | (simp only [World.size_alloc, World.size_setCell, World.size_drew]; omega) | omega))
        by_cases hc114 : d = 114
        · subst hc114
          have HC : Hid (partQ L = ([13], 2, 0)) := Lib.hid (by rw [hL]; rfl)
          clear hL
          go_enter Tryz.func94, Tryz.ntmps94
          go_wp2
          refine bodyPost_ret (v := partV ([13], 2, 0)) (by simp [results, Tryz.results94, go_sem, partV, errR, un, strOf]) rfl ⟨by rw [HC.out], ?_⟩
          (repeat' (first | (with_reducible refine Below.setCell ?_ ?_ _) | (with_reducible refine Below.alloc ?_ ?_ _) | (with_reducible refine Below.drew ?_) | (with_reducible refine below_drewN ?_ _) | (with_reducible assumption) | (with_reducible exact Below.refl _ _) | (simp only [World.size_alloc, World.size_setCell, World.size_drew]; done) | (simp only [World.size_alloc, World.size_setCell, World.size_drew]; omega) | omega))
        by_cases hc116 : d = 116
        · subst hc116
          have HC : Hid (partQ L = ([9], 2, 0)) := Lib.hid (by rw [hL]; rfl)
          clear hL
          go_enter Tryz.func94, Tryz.ntmps94
          go_wp2
          refine bodyPost_ret (v := partV ([9], 2, 0)) (by simp [results, Tryz.results94, go_sem, partV, errR, un, strOf]) rfl ⟨by rw [HC.out], ?_⟩
          (repeat' (first | (with_reducible refine Below.setCell ?_ ?_ _) | (with_reducible refine Below.alloc ?_ ?_ _) | (with_reducible refine Below.drew ?_) | (with_reducible refine below_drewN ?_ _) | (with_reducible assumption) | (with_reducible exact Below.refl _ _) | (simp only [World.size_alloc, World.size_setCell, World.size_drew]; done) | (simp only [World.size_alloc, World.size_setCell, World.size_drew]; omega) | omega))
        have hno : escB d = none := by
          unfold escB
          rw [if_neg (by omega), if_neg hc98, if_neg hc102, if_neg hc110, if_neg hc114, if_neg hc116]
        by_cases hc117 : d = 117
        · subst hc117
          have HC : Hid (partQ L = codedQ u) := Lib.hid (by rw [hL]; rfl)
          unfold partV at hcd
          obtain ⟨q, hq⟩ : ∃ q, q = codedQ u := ⟨_, rfl⟩
          rw [← hq] at hcd HC
          obtain ⟨o, z, e⟩ := q
          simp only at hcd
          obtain ⟨S, hS⟩ : ∃ S, S = strOf (un o) := ⟨_, rfl⟩
          rw [← hS] at hcd
          have HS := Lib.hid hS
          clear hL hno hS hq hc34 hc92 hc47 hc98 hc102 hc110 hc114 hc116
          go_enter Tryz.func94, Tryz.ntmps94
          go_wp2_with fail
          refine (hcd _).mono ?_
          rintro e2 w2 ⟨rfl, hb2⟩
          have hz2 := hb2.size
          simp only [World.size_alloc] at hz2
          have hx2 := (Cells.new w #[.string ⟨#[]⟩, .int .i64 0, .int .i64 0] 110).below hb2 (by simp)
          have hx2c0 := hx2.cell 0 _ rfl
          have hx2f0 := hx2.frozen 0
          have hx2c1 := hx2.cell 1 _ rfl
          have hx2f1 := hx2.frozen 1
          have hx2c2 := hx2.cell 2 _ rfl
          have hx2f2 := hx2.frozen 2
          have hb3 : Below w.heap.size w w2 := ((Below.refl _ w).alloc (Nat.le_refl _) _).trans (hb2.mono (by simp))
          go_wp2
          refine bodyPost_ret (v := .agg #[.string S, .int .i64 z, .int .i64 e]) (by simp [results, Tryz.results94, go_sem, *]) rfl ⟨by rw [HC.out, HS.out]; rfl, ?_⟩
          (repeat' (first | (with_reducible refine Below.setCell ?_ ?_ _) | (with_reducible refine Below.alloc ?_ ?_ _) | (with_reducible refine Below.drew ?_) | (with_reducible refine below_drewN ?_ _) | (with_reducible assumption) | (with_reducible exact Below.refl _ _) | (simp only [World.size_alloc, World.size_setCell, World.size_drew]; done) | (simp only [World.size_alloc, World.size_setCell, World.size_drew]; omega) | omega))
        · have HC : Hid (partQ L = errR 3) := Lib.hid (by rw [hL]; simp only [partQ, escQ, hno, if_neg hc117]; rfl)
          have b1 : ((d : Int) == 34) = false := by rw [beq_eq_false_iff_ne]; omega
          have b2 : ((d : Int) == 92) = false := by rw [beq_eq_false_iff_ne]; omega
          have b3 : ((d : Int) == 47) = false := by rw [beq_eq_false_iff_ne]; omega
          have b4 : ((d : Int) == 98) = false := by rw [beq_eq_false_iff_ne]; omega
          have b5 : ((d : Int) == 102) = false := by rw [beq_eq_false_iff_ne]; omega
          have b6 : ((d : Int) == 110) = false := by rw [beq_eq_false_iff_ne]; omega
          have b7 : ((d : Int) == 114) = false := by rw [beq_eq_false_iff_ne]; omega
          have b8 : ((d : Int) == 116) = false := by rw [beq_eq_false_iff_ne]; omega
          have b9 : ((d : Int) == 117) = false := by rw [beq_eq_false_iff_ne]; omega
          clear hL hno hc34 hc92 hc47 hc98 hc102 hc110 hc114 hc116 hc117
          go_enter Tryz.func94, Tryz.ntmps94
          go_wp2
          refine bodyPost_ret (v := partV (errR 3)) (by simp [results, Tryz.results94, go_sem, partV, errR, un, strOf]) rfl ⟨by rw [HC.out], ?_⟩
          (repeat' (first | (with_reducible refine Below.setCell ?_ ?_ _) | (with_reducible refine Below.alloc ?_ ?_ _) | (with_reducible refine Below.drew ?_) | (with_reducible refine below_drewN ?_ _) | (with_reducible assumption) | (with_reducible exact Below.refl _ _) | (simp only [World.size_alloc, World.size_setCell, World.size_drew]; done) | (simp only [World.size_alloc, World.size_setCell, World.size_drew]; omega) | omega))
    · have hO := fun W => One_any s k W (by omega) hk
      have hle := oneN_le ((bs s).drop k) (fun x hx => bs_lt x (List.mem_of_mem_drop hx))
      rw [List.length_drop, bs_length] at hle
      have hb92 : ((c : Int) != 92) = true := by rw [bne_iff_ne]; omega
      have hPQ : partQ (c :: r) = if (oneN (c :: r)).2 = 0 then errR 7 else ((c :: r).take (oneN (c :: r)).2, (oneN (c :: r)).2, 0) := by
        simp only [partQ]
        rw [if_neg h32, if_neg h92]
      rw [← hq] at hPQ ⊢
      obtain ⟨L, hL⟩ : ∃ L, L = (bs s).drop k := ⟨_, rfl⟩
      rw [← hL] at hPQ hO hle ⊢
      obtain ⟨o, ho⟩ : ∃ o, o = oneN L := ⟨_, rfl⟩
      rw [← ho] at hPQ hO hle
      obtain ⟨o1, n⟩ := o
      simp only at hPQ hO hle
      have hx : s.extract k (k + n) = strOf (un (L.take n)) := by rw [ext_str, show k + n - k = n by omega, hL]
      have HX := Lib.hid hx
      by_cases hn : n = 0
      · subst hn
        have HC : Hid (partQ L = errR 7) := Lib.hid (by rw [hPQ, if_pos rfl])
        clear hq hPQ hL ho hx h92 h32
        go_enter Tryz.func94, Tryz.ntmps94
        go_wp2_with fail
        refine (hO _).mono ?_
        rintro e2 w2 ⟨rfl, hb2⟩
        have hz2 := hb2.size
        simp only [World.size_alloc] at hz2
        have hx2 := (Cells.new w #[.string ⟨#[]⟩, .int .i64 0, .int .i64 0] 110).below hb2 (by simp)
        have hx2c0 := hx2.cell 0 _ rfl
        have hx2f0 := hx2.frozen 0
        have hx2c1 := hx2.cell 1 _ rfl
        have hx2f1 := hx2.frozen 1
        have hx2c2 := hx2.cell 2 _ rfl
        have hx2f2 := hx2.frozen 2
        have hb3 : Below w.heap.size w w2 := ((Below.refl _ w).alloc (Nat.le_refl _) _).trans (hb2.mono (by simp))
        go_wp2
        refine bodyPost_ret (v := partV (errR 7)) (by simp [results, Tryz.results94, go_sem, partV, errR, un, strOf, *]) rfl ⟨by rw [HC.out], ?_⟩
        (repeat' (first | (with_reducible refine Below.setCell ?_ ?_ _) | (with_reducible refine Below.alloc ?_ ?_ _) | (with_reducible refine Below.drew ?_) | (with_reducible refine below_drewN ?_ _) | (with_reducible assumption) | (with_reducible exact Below.refl _ _) | (simp only [World.size_alloc, World.size_setCell, World.size_drew]; done) | (simp only [World.size_alloc, World.size_setCell, World.size_drew]; omega) | omega))
      · have HC : Hid (partQ L = (L.take n, n, 0)) := Lib.hid (by rw [hPQ, if_neg hn])
        have hbn : ((n : Int) == 0) = false := by rw [beq_eq_false_iff_ne]; omega
        clear hq hPQ hL ho hx h92 h32 hn
        go_enter Tryz.func94, Tryz.ntmps94
        go_wp2_with fail
        refine (hO _).mono ?_
        rintro e2 w2 ⟨rfl, hb2⟩
        have hz2 := hb2.size
        simp only [World.size_alloc] at hz2
        have hx2 := (Cells.new w #[.string ⟨#[]⟩, .int .i64 0, .int .i64 0] 110).below hb2 (by simp)
        have hx2c0 := hx2.cell 0 _ rfl
        have hx2f0 := hx2.frozen 0
        have hx2c1 := hx2.cell 1 _ rfl
        have hx2f1 := hx2.frozen 1
        have hx2c2 := hx2.cell 2 _ rfl
        have hx2f2 := hx2.frozen 2
        have hb3 : Below w.heap.size w w2 := ((Below.refl _ w).alloc (Nat.le_refl _) _).trans (hb2.mono (by simp))
        go_wp2
        refine bodyPost_ret (v := .agg #[.string (s.extract k (k + n)), .int .i64 n, .int .i64 0]) (by simp [results, Tryz.results94, go_sem, *]) rfl ⟨by rw [HC.out, HX.out]; rfl, ?_⟩
        (repeat' (first | (with_reducible refine Below.setCell ?_ ?_ _) | (with_reducible refine Below.alloc ?_ ?_ _) | (with_reducible refine Below.drew ?_) | (with_reducible refine below_drewN ?_ _) | (with_reducible assumption) | (with_reducible exact Below.refl _ _) | (simp only [World.size_alloc, World.size_setCell, World.size_drew]; done) | (simp only [World.size_alloc, World.size_setCell, World.size_drew]; omega) | omega))
end Go.Proofs.YtjlikcfabekhlaaGreatDoor

/- The walk of the reference's Scan (layer 7). -/
namespace Go.Proofs.YtjlikcfabekhlaaGreatDoor
open Go.RowKit Go.Tab

theorem strOf_append (a b : List UInt8) : strOf a ++ strOf b = strOf (a ++ b) := by
  refine bs_inj ?_
  simp [bs, strOf]
theorem un_append' (a b : List Nat) : strOf (un a) ++ strOf (un b) = strOf (un (a ++ b)) := by rw [strOf_append]; simp [un]

theorem un_length' (l : List Nat) : (un l).length = l.length := by simp [un]


set_option maxHeartbeats 4000000 in
set_option maxRecDepth 100000 in
theorem qrScan_any (s : ByteArray) (w : World) (hs : s.size ≤ 100000) :
    Calls Tryz.prog 66 #[.string s] w fun e w' => e = .returned (partV (scanQ (bs s))) ∧ Below w.heap.size w w' := by
  cases hq : bs s with
  | nil =>
    have HC : Hid (scanQ [] = errR 2) := Lib.hid rfl
    have hz : s.size = 0 := by rw [← bs_length, hq]; rfl
    have hb : ((s.size : Int) == 0) = true := by rw [beq_iff_eq]; omega
    clear hq hz
    go_enter Tryz.func66, Tryz.ntmps66
    go_wp2
    refine bodyPost_ret (v := partV (errR 2)) (by simp [results, Tryz.results66, go_sem, partV, errR, un, strOf, *]) rfl ⟨by rw [HC.out], ?_⟩
    (repeat' (first | (with_reducible refine Below.setCell ?_ ?_ _) | (with_reducible refine Below.alloc ?_ ?_ _) | (with_reducible refine Below.drew ?_) | (with_reducible refine below_drewN ?_ _) | (with_reducible assumption) | (with_reducible exact Below.refl _ _) | (simp only [World.size_alloc, World.size_setCell, World.size_drew]; done) | (simp only [World.size_alloc, World.size_setCell, World.size_drew]; omega) | omega))
  | cons c r =>
    obtain ⟨hlt, hbv⟩ := bs_fact (s := s) (k := 0) (by rw [List.drop_zero]; exact hq)
    have hlt' : 0 < s.size := hlt
    have hc : c < 256 := bs_lt c (by rw [hq]; simp)
    have hb0 : ((s.size : Int) == 0) = false := by rw [beq_eq_false_iff_ne]; omega
    by_cases hc34 : c = 34
    · subst hc34
      have HQ : Hid (scanQ (bs s) = joinR [] 1 (bodyQ ((bs s).drop 1))) := Lib.hid (by rw [hq]; rfl)
      rw [← hq]
      have hx0 := Cells.new w #[.string ⟨#[]⟩, .int .i64 0, .int .i64 0] 110
      have hbw : Below w.heap.size w (w.alloc (.cells #[.string ⟨#[]⟩, .int .i64 0, .int .i64 0] 110)) := (Below.refl _ w).alloc (Nat.le_refl _) _
      clear hq
      go_enter Tryz.func66, Tryz.ntmps66
      go_wp2_with fail
      go_loopw [3, 4] (fun sv at' wr => ∃ (k : Nat) (pre : List Nat) (S : ByteArray), sv = .string S ∧ Hid (S = strOf (un pre)) ∧ S.size ≤ 4 * k ∧ at' = .int .i64 (k : Int) ∧ k ≤ s.size ∧ joinR pre k (bodyQ ((bs s).drop k)) = scanQ (bs s) ∧ Cells wr w.heap.size #[.string ⟨#[]⟩, .int .i64 0, .int .i64 0] 110 ∧ Below w.heap.size w wr) (fun _ at' _ => s.size - (intOf at').toNat)
      case atStart => exact ⟨1, [], _, rfl, Lib.hid rfl, by decide, rfl, by omega, HQ.out.symm, hx0, hbw⟩
      case round =>
        clear hx0 hbw HQ
        obtain ⟨k, pre, S, rfl, HS, hSk, rfl, hk, hj, hx, hb⟩ := hrel
        have HJ := Lib.hid hj
        have hBy : Byt ((bs s).drop k) := fun x hx => bs_lt x (List.mem_of_mem_drop hx)
        have hP := fun W => rpart_any s k W hk hs
        have hxl := hx.lt
        clear hj
        by_cases hh : ((bs s).drop k).head? = some 34
        · have HC : Hid (scanQ (bs s) = (pre, k + 1, 0)) := Lib.hid (by rw [← HJ.out, joinR_end hBy hh])
          obtain ⟨t, ht⟩ : ∃ t, (bs s).drop k = 34 :: t := by
            cases hd : (bs s).drop k with
            | nil => rw [hd] at hh; simp at hh
            | cons a t => rw [hd] at hh; simp at hh; subst hh; exact ⟨t, rfl⟩
          obtain ⟨hlt2, hbv2⟩ := bs_fact ht
          have hlt2' : k < s.size := hlt2
          have hxc0 := hx.cell 0 _ rfl
          have hxf0 := hx.frozen 0
          have hxc1 := hx.cell 1 _ rfl
          have hxf1 := hx.frozen 1
          have hxc2 := hx.cell 2 _ rfl
          have hxf2 := hx.frozen 2
          clear hh ht hBy hP HJ
          go_wp2
          refine bodyPost_ret (v := .agg #[.string S, .int .i64 ((k : Int) + 1), .int .i64 0]) (by simp [results, Tryz.results66, go_sem, partV, errR, un, strOf, *]) rfl ⟨by rw [HC.out, HS.out]; rfl, ?_⟩
          (repeat' (first | (with_reducible refine Below.setCell ?_ ?_ _) | (with_reducible refine Below.alloc ?_ ?_ _) | (with_reducible refine Below.drew ?_) | (with_reducible refine below_drewN ?_ _) | (with_reducible assumption) | (with_reducible exact Below.refl _ _) | (simp only [World.size_alloc, World.size_setCell, World.size_drew]; done) | (simp only [World.size_alloc, World.size_setCell, World.size_drew]; omega) | omega))
        · have hnot : ¬ k < s.size ∨ (∃ (h : k < s.size), (((s[k]'h).toNat : Int) == 34) = false) := by
            cases hd : (bs s).drop k with
            | nil => exact .inl (by have := drop_nil_iff hk hd; omega)
            | cons a t =>
              obtain ⟨hlt2, hbv2⟩ := bs_fact hd
              refine .inr ⟨hlt2, ?_⟩
              rw [hbv2, beq_eq_false_iff_ne]
              intro e
              exact hh (by rw [hd]; simp; omega)
          have HN := Lib.hid (fun (he : (partQ ((bs s).drop k)).2.2 = 0) => joinR_good hBy hh he (pre := pre) (k := k))
          have HB := Lib.hid (fun (he : (partQ ((bs s).drop k)).2.2 ≠ 0) => joinR_bad hBy hh he (pre := pre) (k := k))
          have HO := Lib.hid (fun (he : (partQ ((bs s).drop k)).2.2 = 0) => partQ_ok hBy he)
          rw [List.length_drop, bs_length] at HO
          rw [List.drop_drop] at HN
          clear hh hBy
          unfold partV at hP
          generalize partQ ((bs s).drop k) = q at *
          obtain ⟨o, z, e⟩ := q
          simp only at hP HN HB HO
          obtain ⟨O, hO⟩ : ∃ O, O = strOf (un o) := ⟨_, rfl⟩
          rw [← hO] at hP
          have HOO := Lib.hid hO
          clear hO
          by_cases he : e = 0
          · subst he
            obtain ⟨c0, -, ho4, hz1, hz2⟩ := HO.out rfl
            have hO4 : O.size ≤ 4 := by rw [HOO.out, strOf_size, un_length', ho4, putN_len]; exact (wid_pos c0).2
            clear ho4
            have HN2 : Hid (joinR (pre ++ o) (k + z) (bodyQ ((bs s).drop (k + z))) = scanQ (bs s)) := Lib.hid (by rw [← HJ.out, HN.out rfl])
            have HS2 : Hid (S ++ O = strOf (un (pre ++ o))) := Lib.hid (by rw [HS.out, HOO.out, un_append'])
            clear HN HB HO HJ
            rcases hnot with hnot | ⟨hlt2, hnot⟩
            · omega
            · go_wp2_with fail
              refine (hP _).mono ?_
              rintro e2 w2 ⟨rfl, hb2⟩
              have hz3 := hb2.size
              have hx2 := hx.below hb2 hxl
              have hb3 := (hb.trans (hb2.mono hb.size)).alloc (by have := hb.size; omega) (.cells #[.string O, .int .i64 z, .int .i64 0] 110)
              have hx3 := hx2.alloc (.cells #[.string O, .int .i64 z, .int .i64 0] 110)
              clear hx hb hP
              go_wp2
              go_roundw
              case rel => exact ⟨k + z, pre ++ o, _, rfl, HS2, by rw [ByteArray.size_append]; omega, by go_num, by omega, HN2.out, hx3, hb3⟩
              case measure => simp [intOf]; omega
          · have HC : Hid (scanQ (bs s) = errR e) := Lib.hid (by rw [← HJ.out, HB.out he])
            have hbe : ((e : Int) != 0) = true := by rw [bne_iff_ne]; omega
            clear HN HB HO HJ he
            rcases hnot with hnot | ⟨hlt2, hnot⟩
            all_goals
              go_wp2_with fail
              refine (hP _).mono ?_
              rintro e2 w2 ⟨rfl, hb2⟩
              have hz3 := hb2.size
              have hx2 := hx.below hb2 hxl
              have hb3 := (hb.trans (hb2.mono hb.size)).alloc (by have := hb.size; omega) (.cells #[.string O, .int .i64 z, .int .i64 e] 110)
              have hx3 := hx2.alloc (.cells #[.string O, .int .i64 z, .int .i64 e] 110)
              clear hx hx2
              have hx3c0 := hx3.cell 0 _ rfl
              have hx3f0 := hx3.frozen 0
              have hx3c1 := hx3.cell 1 _ rfl
              have hx3f1 := hx3.frozen 1
              have hx3c2 := hx3.cell 2 _ rfl
              have hx3f2 := hx3.frozen 2
              have hb2w := hb.trans (hb2.mono hb.size)
              clear hb hb2 hP
              go_wp2
              refine bodyPost_ret (v := partV (errR e)) (by simp [results, Tryz.results66, go_sem, partV, errR, un, strOf, *]) rfl ⟨by rw [HC.out], ?_⟩
              (repeat' (first | (with_reducible refine Below.setCell ?_ ?_ _) | (with_reducible refine Below.alloc ?_ ?_ _) | (with_reducible refine Below.drew ?_) | (with_reducible refine below_drewN ?_ _) | (with_reducible assumption) | (with_reducible exact Below.refl _ _) | (simp only [World.size_alloc, World.size_setCell, World.size_drew]; done) | (simp only [World.size_alloc, World.size_setCell, World.size_drew]; omega) | omega))
    · have HC : Hid (scanQ (c :: r) = errR 3) := Lib.hid (by simp only [scanQ]; rw [if_pos hc34])
      have hbc : ((c : Int) != 34) = true := by rw [bne_iff_ne]; omega
      clear hq hc34
      go_enter Tryz.func66, Tryz.ntmps66
      go_wp2
      refine bodyPost_ret (v := partV (errR 3)) (by simp [results, Tryz.results66, go_sem, partV, errR, un, strOf, *]) rfl ⟨by rw [HC.out], ?_⟩
      (repeat' (first | (with_reducible refine Below.setCell ?_ ?_ _) | (with_reducible refine Below.alloc ?_ ?_ _) | (with_reducible refine Below.drew ?_) | (with_reducible refine below_drewN ?_ _) | (with_reducible assumption) | (with_reducible exact Below.refl _ _) | (simp only [World.size_alloc, World.size_setCell, World.size_drew]; done) | (simp only [World.size_alloc, World.size_setCell, World.size_drew]; omega) | omega))
end Go.Proofs.YtjlikcfabekhlaaGreatDoor

/- The walk of the reference's one: the token at a place (layer 11), its roads one by one. -/
namespace Go.Proofs.YtjlikcfabekhlaaGreatDoor
open Go.RowKit Go.Tab

/-- What one tells. -/
def OneP (w : World) (s : ByteArray) (k : Nat) (r : LR) : Ending → World → Prop := TellP w (lrT s k r).1 (lrT s k r).2.1 (lrT s k r).2.2
/-- The box of the result, behind the call whose answer is stored. -/
theorem tell_box {w w1 w2 : World} {l : List Tok} {a e : Int} {v : Value} (hb : Below w.heap.size w w1) (hbx : Cells w1 w.heap.size #[.slice none 0 0, .int .i64 0, .int .i64 0] 26) (hl : w1.heap.size ≤ w2.heap.size)
    (hown : OwnT w1.heap.size w2 v l) (hb2 : Below w1.heap.size w1 w2) :
    Cells w2 w.heap.size #[.slice none 0 0, .int .i64 0, .int .i64 0] 26 ∧
    OwnT w.heap.size (setAll w2 w.heap.size 0 [v, .int .i64 a, .int .i64 e]) v l ∧ Below w.heap.size w (setAll w2 w.heap.size 0 [v, .int .i64 a, .int .i64 e]) ∧
    Cells (setAll w2 w.heap.size 0 [v, .int .i64 a, .int .i64 e]) w.heap.size #[v, .int .i64 a, .int .i64 e] 26 := by
  have hc := hbx.below hb2 hbx.lt
  refine ⟨hc, ?_, setAll_below _ _ (Nat.le_refl _) _ _ _ _ (hb.trans (hb2.mono hb.size)), ?_⟩
  · refine (hown.base_le hb.size).moved (fun k hk => setAll_other _ _ _ _ _ ?_)
    have h1 := (World.ownsRow.lt hown k hk).1
    have h2 := hbx.lt
    omega
  · exact hc.put [v, .int .i64 a, .int .i64 e] 0
set_option maxHeartbeats 4000000 in
set_option maxRecDepth 100000 in
theorem one_line (s : ByteArray) (k : Nat) (w : World) (hs : s.size ≤ 100000) (hk : k < s.size) (h : s[k]'hk = 10) :
    Calls Tryz.prog 38 #[.string s, .int .i64 (k : Nat)] w (OneP w s k (.tok 5 1)) := by
  have hcn : (s[k]'hk).toNat = 10 := by rw [h]; rfl
  clear h
  have hb : Below w.heap.size w (w.alloc (.cells #[.slice none 0 0, .int .i64 0, .int .i64 0] 26)) := (Below.refl _ w).alloc (Nat.le_refl _) _
  have hbx := Cells.new w #[.slice none 0 0, .int .i64 0, .int .i64 0] 26
  have hT := token_any s k 1 5 (w.alloc (.cells #[.slice none 0 0, .int .i64 0, .int .i64 0] 26)) (by omega) (by omega)
  have hkp : k + 1 ≤ s.size := hk
  go_enter Tryz.func38, Tryz.ntmps38
  go_wp2_with fail
  refine (hT).mono ?_
  rintro _ w2 ⟨v, rfl, hown, hb2⟩
  obtain ⟨hc2, hown2, hbe, -⟩ := tell_box (a := 0) (e := 0) hb hbx hb2.size hown hb2
  obtain ⟨va, vc, hve⟩ := hown.len
  simp only [List.length_cons, List.length_nil, Nat.zero_add] at hve
  subst hve
  have hl2 := hc2.lt
  have HX := Lib.hid (And.intro hown2 (And.intro hbe hc2))
  clear hown hb2 hown2 hbe hb hbx
  have hc2c0 := hc2.cell 0 _ rfl
  have hc2f0 := hc2.frozen 0
  have hc2c1 := hc2.cell 1 _ rfl
  have hc2f1 := hc2.frozen 1
  have hc2c2 := hc2.cell 2 _ rfl
  have hc2f2 := hc2.frozen 2
  go_wp2
  obtain ⟨hown2, hbe, hce⟩ := HX.out
  have hq := ((hce.setI 0 (.slice va 1 vc)).setI 1 (.int .i64 0)).setI 2 (.int .i64 0)
  have hx := hq.cell 0 _ rfl
  have hy := hq.cell 1 _ rfl
  have hz := hq.cell 2 _ rfl
  refine bodyPost_ret (v := .agg #[.slice va 1 vc, .int .i64 0, .int .i64 0]) (by simp [results, Tryz.results38, go_sem, hx, hy, hz]) rfl ?_
  exact ⟨_, rfl, hown2, hbe⟩

set_option maxHeartbeats 4000000 in
set_option maxRecDepth 100000 in
theorem one_word (s : ByteArray) (k : Nat) (w : World) (hs : s.size ≤ 100000) (hk : k < s.size) (h10 : s[k]'hk ≠ 10) (h : letB (s[k]'hk) = true) :
    Calls Tryz.prog 38 #[.string s, .int .i64 (k : Nat)] w (OneP w s k (.tok 1 (1 + idN (s.data.toList.drop (k + 1))))) := by
  have d10 := u8_nb h10 (m := 10) rfl
  have hLe := Letter_any (s[k]'hk)
  rw [h] at hLe
  clear h h10
  have hb : Below w.heap.size w (w.alloc (.cells #[.slice none 0 0, .int .i64 0, .int .i64 0] 26)) := (Below.refl _ w).alloc (Nat.le_refl _) _
  have hbx := Cells.new w #[.slice none 0 0, .int .i64 0, .int .i64 0] 26
  obtain ⟨q, hq⟩ : ∃ q, idN (s.data.toList.drop (k + 1)) = q := ⟨_, rfl⟩
  rw [hq]
  have hq2 : q ≤ s.size - (k + 1) := by rw [← hq]; have := idN_le (s.data.toList.drop (k + 1)); rw [List.length_drop, ← size_list] at this; exact this
  have HQ := Lib.hid hq
  clear hq
  have hT := token_any s k (1 + q) 1 (w.alloc (.cells #[.slice none 0 0, .int .i64 0, .int .i64 0] 26)) (by omega) (by omega)
  have HH := Lib.hid (And.intro hb (And.intro hbx hT))
  clear hb hbx hT
  go_enter Tryz.func38, Tryz.ntmps38
  go_wp2_with fail
  refine (hLe _).mono ?_
  rintro _ _ ⟨rfl, hw1⟩
  cases hw1
  go_wp2_with fail
  go_loop [5] (fun n => ∃ j : Nat, n = .int .i64 (j : Int) ∧ 1 ≤ j ∧ k + j ≤ s.size ∧ j + idN (s.data.toList.drop (k + j)) = 1 + q) (fun n => s.size - (k + (intOf n).toNat))
  case atStart => exact ⟨1, rfl, Nat.le_refl _, hk, by rw [HQ.out]⟩
  case round =>
    clear HQ
    obtain ⟨j, rfl, hj1, hj, hI⟩ := hrel
    by_cases hlt : k + j < s.size
    · have hst := idN_step s.data.toList (k + j) (by rw [← size_list]; exact hlt)
      rw [hst] at hI
      have hLj := Letter_any (s[k + j]'hlt)
      rw [← get_list hlt, show idB (s[k + j]'hlt) = (letB (s[k + j]'hlt) || dg (s[k + j]'hlt)) from rfl] at hI
      clear hst
      have hbnd : 0 ≤ (k : Int) + j ∧ (k : Int) + j < s.size := by omega
      have hbnd2 : 0 ≤ (k : Int) + j ∧ (k : Int) + j < (s.size : Int) := hbnd
      cases hb : letB (s[k + j]'hlt) with
      | true =>
        rw [hb] at hI hLj
        simp only [Bool.true_or, if_true] at hI
        have HI := Lib.hid hI
        clear hI hb
        go_wp2_with fail
        refine (hLj _).mono ?_
        rintro _ _ ⟨rfl, hw1⟩
        cases hw1
        go_wp2
        go_round
        case rel => exact ⟨j + 1, by go_num, by omega, by omega, by have := HI.out; rw [show k + (j + 1) = k + j + 1 by omega]; omega⟩
        case measure => simp [intOf]; omega
      | false =>
        rw [hb] at hI hLj
        cases hd : dg (s[k + j]'hlt) with
        | true =>
          rw [hd] at hI
          have hdr := dg_lt hd
          simp only [Bool.or_true, if_true] at hI
          have HI := Lib.hid hI
          clear hI hb hd
          go_wp2_with fail
          refine (hLj _).mono ?_
          rintro _ _ ⟨rfl, hw1⟩
          cases hw1
          go_wp2
          go_round
          case rel => exact ⟨j + 1, by go_num, by omega, by omega, by have := HI.out; rw [show k + (j + 1) = k + j + 1 by omega]; omega⟩
          case measure => simp [intOf]; omega
        | false =>
          rw [hd] at hI
          have hdr : (s[k + j]'hlt).toNat < 48 ∨ (48 ≤ (s[k + j]'hlt).toNat ∧ 57 < (s[k + j]'hlt).toNat) := by
            have : ¬ (48 ≤ (s[k + j]'hlt).toNat ∧ (s[k + j]'hlt).toNat ≤ 57) := by simpa [dg, dig] using hd
            omega
          simp only [Bool.or_false, Bool.false_eq_true, if_false] at hI
          have hjq : j = 1 + q := by omega
          clear hI hb hd
          subst hjq
          rcases hdr with hdr | hdr
          all_goals
            go_wp2_with fail
            refine (hLj _).mono ?_
            rintro _ _ ⟨rfl, hw1⟩
            cases hw1
            go_wp2_with fail
            obtain ⟨hb, hbx, hT⟩ := HH.out
            refine (hT).mono ?_
            rintro _ w2 ⟨v, rfl, hown, hb2⟩
            obtain ⟨hc2, hown2, hbe, -⟩ := tell_box (a := 0) (e := 0) hb hbx hb2.size hown hb2
            obtain ⟨va, vc, hve⟩ := hown.len
            simp only [List.length_cons, List.length_nil, Nat.zero_add] at hve
            subst hve
            have hl2 := hc2.lt
            have HX := Lib.hid (And.intro hown2 (And.intro hbe hc2))
            clear hown hb2 hown2 hbe hb hbx
            have hc2c0 := hc2.cell 0 _ rfl
            have hc2f0 := hc2.frozen 0
            have hc2c1 := hc2.cell 1 _ rfl
            have hc2f1 := hc2.frozen 1
            have hc2c2 := hc2.cell 2 _ rfl
            have hc2f2 := hc2.frozen 2
            go_wp2
            obtain ⟨hown2, hbe, hce⟩ := HX.out
            have hq := ((hce.setI 0 (.slice va 1 vc)).setI 1 (.int .i64 0)).setI 2 (.int .i64 0)
            have hx := hq.cell 0 _ rfl
            have hy := hq.cell 1 _ rfl
            have hz := hq.cell 2 _ rfl
            refine bodyPost_ret (v := .agg #[.slice va 1 vc, .int .i64 0, .int .i64 0]) (by simp [results, Tryz.results38, go_sem, hx, hy, hz]) rfl ?_
            exact ⟨_, rfl, hown2, hbe⟩
    · have hjs : k + j = s.size := by omega
      have he : idN (s.data.toList.drop (k + j)) = 0 := by rw [hjs, size_list, List.drop_length]; rfl
      rw [he] at hI
      have hjq : j = 1 + q := by omega
      clear hI he
      subst hjq
      go_wp2_with fail
      obtain ⟨hb, hbx, hT⟩ := HH.out
      refine (hT).mono ?_
      rintro _ w2 ⟨v, rfl, hown, hb2⟩
      obtain ⟨hc2, hown2, hbe, -⟩ := tell_box (a := 0) (e := 0) hb hbx hb2.size hown hb2
      obtain ⟨va, vc, hve⟩ := hown.len
      simp only [List.length_cons, List.length_nil, Nat.zero_add] at hve
      subst hve
      have hl2 := hc2.lt
      have HX := Lib.hid (And.intro hown2 (And.intro hbe hc2))
      clear hown hb2 hown2 hbe hb hbx
      have hc2c0 := hc2.cell 0 _ rfl
      have hc2f0 := hc2.frozen 0
      have hc2c1 := hc2.cell 1 _ rfl
      have hc2f1 := hc2.frozen 1
      have hc2c2 := hc2.cell 2 _ rfl
      have hc2f2 := hc2.frozen 2
      go_wp2
      obtain ⟨hown2, hbe, hce⟩ := HX.out
      have hq := ((hce.setI 0 (.slice va 1 vc)).setI 1 (.int .i64 0)).setI 2 (.int .i64 0)
      have hx := hq.cell 0 _ rfl
      have hy := hq.cell 1 _ rfl
      have hz := hq.cell 2 _ rfl
      refine bodyPost_ret (v := .agg #[.slice va 1 vc, .int .i64 0, .int .i64 0]) (by simp [results, Tryz.results38, go_sem, hx, hy, hz]) rfl ?_
      exact ⟨_, rfl, hown2, hbe⟩
end Go.Proofs.YtjlikcfabekhlaaGreatDoor

/- The walk of the lexer's next (layer 11). -/
namespace Go.Proofs.YtjlikcfabekhlaaGreatDoor
open Go.RowKit Go.Tab

theorem endN_index : ∀ l : Bs, (Lib.index l [42, 47] = -1 ∧ endN l = none) ∨ ∃ n : Nat, Lib.index l [42, 47] = n ∧ endN l = some n
  | [] => .inl ⟨rfl, rfl⟩
  | c :: l => by
    unfold Lib.index endN
    have hp : ([42, 47] : Bs).isPrefixOf (c :: l) = decide (c = 42 ∧ l.head? = some 47) := by
      cases l with
      | nil => simp [List.isPrefixOf]
      | cons d l =>
        simp only [List.isPrefixOf, List.head?_cons, Option.some.injEq, Bool.and_true]
        by_cases h1 : c = 42
        · by_cases h2 : d = 47
          · subst h1 h2; rfl
          · subst h1
            have : (47 == d) = false := by simpa using fun e : (47 : UInt8) = d => h2 e.symm
            simp [this, h2]
        · have : (42 == c) = false := by simpa using fun e : (42 : UInt8) = c => h1 e.symm
          simp [this, h1]
    rw [hp]
    by_cases h : c = 42 ∧ l.head? = some 47
    · rw [if_pos (by simpa using h), if_pos h]
      exact .inr ⟨0, rfl, rfl⟩
    · rw [if_neg (by simpa using h), if_neg h]
      rcases endN_index l with ⟨h1, h2⟩ | ⟨n, h1, h2⟩
      · left; rw [h1, h2]; exact ⟨by simp, rfl⟩
      · right; rw [h1, h2]; exact ⟨n + 1, by rw [if_neg (by simp)]; rfl, rfl⟩
theorem ext_drop (s : ByteArray) (k : Nat) : (s.extract k s.size).data.toList = s.data.toList.drop k := by rw [ext_list, size_list, List.take_length]

set_option maxHeartbeats 2000000 in
set_option maxRecDepth 100000 in
theorem aside_any (s : ByteArray) (w : World) (hT : LexT w) (hs : s.size ≤ 100000) (h2 : 2 ≤ s.size) :
    Calls Tryz.prog 127 #[.string s] w fun e w' => e = .returned (lrV (aside1 s.data.toList)) ∧ Below w.heap.size w w' := by
  obtain ⟨m, hm⟩ := hT.mlen
  have hI := Tryz.strings_Index (s.extract 2 s.size) ⟨#[42, 47]⟩ m w (by rw [ByteArray.size_extract]; omega) hm
  rw [ext_drop] at hI
  unfold aside1
  rcases endN_index (s.data.toList.drop 2) with ⟨h3, h4⟩ | ⟨n, h3, h4⟩
  · rw [h4]
    simp only [lrV]
    change Calls _ _ _ _ fun e w' => e = .returned (.int .i64 (Lib.index (s.data.toList.drop 2) [42, 47])) ∧ w' = w at hI
    rw [h3] at hI
    clear h3 h4 hm
    go_enter Tryz.func127, Tryz.ntmps127
    go_wp2_with fail
    refine hI.mono ?_
    rintro _ _ ⟨rfl, rfl⟩
    go_wp2
    refine bodyPost_ret (v := .tuple #[.int .i64 0, .int .i64 0, .int .i64 0, .int .i64 2]) (by simp [results, Tryz.results127, go_sem]) rfl ⟨rfl, Below.refl _ _⟩
  · have hle := endN_le _ _ h4
    rw [List.length_drop, ← size_list] at hle
    rw [h4]
    simp only
    change Calls _ _ _ _ fun e w' => e = .returned (.int .i64 (Lib.index (s.data.toList.drop 2) [42, 47])) ∧ w' = w at hI
    rw [h3] at hI
    have hB := fun W => has_any (s.extract 0 (n + 2)) 10 W
    rw [ext_take] at hB
    have hW := fun W h => within_any (s.extract 0 (n + 4)) W (by rw [ext_size (by omega)]; omega) h
    rw [ext_take] at hW
    have hsz : (s.extract 0 (n + 4)).size = n + 4 := ext_size (by omega)
    have hln : (s.data.toList.take (n + 4)).length = n + 4 := by rw [List.length_take, ← size_list]; omega
    have e2 : s.extract 0 (n + 2) = s.extract 0 (n + 2) := rfl
    clear h3 h4 hm
    cases hc : (s.data.toList.take (n + 2)).contains 10 with
    | true =>
      rw [hc] at hB
      rw [if_pos rfl]
      simp only [lrV]
      clear hc hW hsz hln
      go_enter Tryz.func127, Tryz.ntmps127
      go_wp2_with fail
      refine hI.mono ?_
      rintro _ _ ⟨rfl, rfl⟩
      go_wp2_with fail
      refine (hB _).mono ?_
      rintro _ _ ⟨⟨i, rfl, hi⟩, rfl⟩
      go_wp2
      refine bodyPost_ret (v := .tuple #[.int .i64 0, .int .i64 0, .int .i64 0, .int .i64 2]) (by simp [results, Tryz.results127, go_sem]) rfl ⟨rfl, Below.refl _ _⟩
    | false =>
      rw [hc] at hB
      rw [if_neg (by simp)]
      clear hc
      generalize s.data.toList.take (n + 4) = rs at *
      cases hw : wth rs with
      | none =>
        rw [remT_none hw, hln]
        rw [hw] at hW
        simp only [lrV, wthV] at hW ⊢
        clear hw hln
        go_enter Tryz.func127, Tryz.ntmps127
        go_wp2_with fail
        refine hI.mono ?_
        rintro _ _ ⟨rfl, rfl⟩
        go_wp2_with fail
        refine (hB _).mono ?_
        rintro _ _ ⟨⟨i, rfl, hi⟩, rfl⟩
        go_wp2_with fail
        refine (hW _ hT.utf).mono ?_
        rintro _ w2 ⟨rfl, hb2⟩
        go_wp2
        refine bodyPost_ret (v := .tuple #[.int .i64 7, .int .i64 ((n + 4 : Nat) : Int), .int .i64 0, .int .i64 0]) (by simp [results, Tryz.results127, go_sem, hsz]) rfl ⟨rfl, hb2⟩
      | some x =>
        rw [remT_some hw]
        rw [hw] at hW
        have hne := wth_err hw
        obtain ⟨xa, xe⟩ := x
        simp only [lrV, wthV] at hW hne ⊢
        clear hw hln
        go_enter Tryz.func127, Tryz.ntmps127
        go_wp2_with fail
        refine hI.mono ?_
        rintro _ _ ⟨rfl, rfl⟩
        go_wp2_with fail
        refine (hB _).mono ?_
        rintro _ _ ⟨⟨i, rfl, hi⟩, rfl⟩
        go_wp2_with fail
        refine (hW _ hT.utf).mono ?_
        rintro _ w2 ⟨rfl, hb2⟩
        go_wp2
        refine bodyPost_ret (v := .tuple #[.int .i64 0, .int .i64 0, .int .i64 (xa : Nat), .int .i64 xe]) (by simp [results, Tryz.results127, go_sem]) rfl ⟨rfl, hb2⟩
end Go.Proofs.YtjlikcfabekhlaaGreatDoor

/- The walk of the lexer's next, whole (layer 11). -/
namespace Go.Proofs.YtjlikcfabekhlaaGreatDoor
open Go.RowKit Go.Tab

theorem pfx2 (a b c : UInt8) (l : Bs) : ([a, b] : Bs).isPrefixOf (c :: l) = decide (c = a ∧ l.head? = some b) := by
  cases l with
  | nil => simp [List.isPrefixOf]
  | cons d l =>
    simp only [List.isPrefixOf, List.head?_cons, Option.some.injEq, Bool.and_true]
    by_cases h1 : c = a
    · by_cases h2 : d = b
      · subst h1 h2; simp
      · subst h1
        have : (b == d) = false := by simpa using fun e : b = d => h2 e.symm
        simp [this, h2]
    · have : (a == c) = false := by simpa using fun e : a = c => h1 e.symm
      simp [this, h1]
theorem lrV_four (r : LR) : ∃ a b c d : Int, lrV r = .tuple #[.int .i64 a, .int .i64 b, .int .i64 c, .int .i64 d] := by
  cases r <;> exact ⟨_, _, _, _, rfl⟩
set_option maxHeartbeats 4000000 in
set_option maxRecDepth 100000 in
theorem next_any (s : ByteArray) (w : World) (hT : LexT w) (hs : s.size ≤ 100000) (h0 : 0 < s.size) :
    Calls Tryz.prog 90 #[.string s] w fun e w' => e = .returned (lrV (one1 s.data.toList)) ∧ Below w.heap.size w w' := by
  obtain ⟨c, hc⟩ : ∃ c, s[0]'h0 = c := ⟨_, rfl⟩
  have hcn : (s[0]'h0).toNat = c.toNat := by rw [hc]
  obtain ⟨r, hr⟩ : ∃ r, s.data.toList = c :: r := ⟨_, by have := drop_at (s := s) (k := 0) h0; rw [List.drop_zero, hc] at this; exact this⟩
  have hLe := letter_any c
  have hDi := digit_any c
  have hId := fun W => ident_any s W (by unfold maxLen; omega) h0
  rw [hr] at hId
  simp only [List.drop_succ_cons, List.drop_zero] at hId
  have hDe := fun W h => decimal_any s W h hs
  have hQ := fun W h => qScan_any s W hs h
  have hR := fun W h => remark_any s W h hs
  have hP1 := fun W => Tryz.strings_HasPrefix s ⟨#[47, 47]⟩ W
  have hP2 := fun W => Tryz.strings_HasPrefix s ⟨#[47, 42]⟩ W
  have hA := fun W h h2 => aside_any s W h hs h2
  have hSg := fun W h => sign_any s W h h0 (by unfold maxLen; omega)
  have e1 : Lib.hasPrefix s.data.toList (⟨#[47, 47]⟩ : ByteArray).data.toList = decide (c = 47 ∧ r.head? = some 47) := by rw [hr]; exact pfx2 47 47 c r
  have e2 : Lib.hasPrefix s.data.toList (⟨#[47, 42]⟩ : ByteArray).data.toList = decide (c = 47 ∧ r.head? = some 42) := by rw [hr]; exact pfx2 47 42 c r
  rw [e1] at hP1
  rw [e2] at hP2
  have h2 : r.head? = some 42 → 2 ≤ s.size := by
    intro h
    rw [size_list, hr]
    cases r with
    | nil => cases h
    | cons d r => simp
  rw [hr] at hDe hR hA hSg ⊢
  have hbs : bs s = nb (c :: r) := by rw [← hr]; rfl
  rw [hbs] at hQ
  clear e1 e2 hr hc hbs
  rw [one1]
  cases hl : letB c with
  | true =>
    rw [hl] at hLe
    simp only [if_true, lrV]
    clear hDi hDe hQ hR hP1 hP2 hA hSg hl h2
    generalize idN r = q at *
    go_enter Tryz.func90, Tryz.ntmps90
    go_wp2_with fail
    refine (hLe _).mono ?_
    rintro _ _ ⟨rfl, rfl⟩
    go_wp2_with fail
    refine (hId _).mono ?_
    rintro _ _ ⟨rfl, rfl⟩
    go_wp2
    refine bodyPost_ret (v := .tuple #[.int .i64 1, .int .i64 ((1 + q : Nat) : Int), .int .i64 0, .int .i64 0]) (by simp [results, Tryz.results90, go_sem]) rfl ⟨rfl, Below.refl _ _⟩
  | false =>
  rw [hl] at hLe
  cases hd : dg c with
  | true =>
    rw [hd] at hDi
    simp only [if_true, Bool.false_eq_true, if_false]
    clear hQ hR hP1 hP2 hA hSg hl h2 hId hd
    obtain ⟨x1, x2, x3, x4, hx⟩ := lrV_four (num1 (c :: r))
    rw [hx] at hDe ⊢
    clear hx
    go_enter Tryz.func90, Tryz.ntmps90
    go_wp2_with fail
    refine (hLe _).mono ?_
    rintro _ _ ⟨rfl, rfl⟩
    go_wp2_with fail
    refine (hDi _).mono ?_
    rintro _ _ ⟨rfl, rfl⟩
    go_wp2_with fail
    refine (hDe _ hT).mono ?_
    rintro _ w1 ⟨rfl, hb1⟩
    go_wp2
    refine bodyPost_ret (v := .tuple #[.int .i64 x1, .int .i64 x2, .int .i64 x3, .int .i64 x4]) (by simp [results, Tryz.results90, go_sem]) rfl ⟨rfl, hb1⟩
  | false =>
  rw [hd] at hDi
  simp only [Bool.false_eq_true, if_false]
  by_cases h34 : c = 34
  · have d34 : ((c.toNat : Int) == 34) = true := by subst h34; rfl
    rw [if_pos h34]
    unfold quo1
    clear hR hP1 hP2 hA hSg hl h2 hId hd hDe h34
    generalize scanQ (nb (c :: r)) = q at *
    obtain ⟨qs, qn, qe⟩ := q
    simp only [scanV] at hQ ⊢
    by_cases he : qe = 0
    · subst he
      rw [if_pos rfl]
      simp only [lrV]
      go_enter Tryz.func90, Tryz.ntmps90
      go_wp2_with fail
      refine (hLe _).mono ?_
      rintro _ _ ⟨rfl, rfl⟩
      go_wp2_with fail
      refine (hDi _).mono ?_
      rintro _ _ ⟨rfl, rfl⟩
      go_wp2_with fail
      refine (hQ _ hT.utf).mono ?_
      rintro _ w1 ⟨rfl, hb1⟩
      go_wp2
      refine bodyPost_ret (v := .tuple #[.int .i64 3, .int .i64 (qn : Nat), .int .i64 0, .int .i64 0]) (by simp [results, Tryz.results90, go_sem]) rfl ⟨rfl, hb1⟩
    · have he2 : ((qe : Int) != 0) = true := by rw [bne_iff_ne]; omega
      rw [if_neg (by omega)]
      simp only [lrV]
      clear he
      go_enter Tryz.func90, Tryz.ntmps90
      go_wp2_with fail
      refine (hLe _).mono ?_
      rintro _ _ ⟨rfl, rfl⟩
      go_wp2_with fail
      refine (hDi _).mono ?_
      rintro _ _ ⟨rfl, rfl⟩
      go_wp2_with fail
      refine (hQ _ hT.utf).mono ?_
      rintro _ w1 ⟨rfl, hb1⟩
      go_wp2
      refine bodyPost_ret (v := .tuple #[.int .i64 0, .int .i64 0, .int .i64 0, .int .i64 (qe : Nat)]) (by simp [results, Tryz.results90, go_sem]) rfl ⟨rfl, hb1⟩
  rw [if_neg h34]
  have d34 := u8_nb h34 (m := 34) rfl
  clear h34 hQ hDe hId
  by_cases h10 : c = 10
  · have d10 : ((c.toNat : Int) == 10) = true := by subst h10; rfl
    rw [if_pos h10]
    clear hR hP1 hP2 hA hSg hl h2 hd h10
    simp only [lrV]
    go_enter Tryz.func90, Tryz.ntmps90
    go_wp2_with fail
    refine (hLe _).mono ?_
    rintro _ _ ⟨rfl, rfl⟩
    go_wp2_with fail
    refine (hDi _).mono ?_
    rintro _ _ ⟨rfl, rfl⟩
    go_wp2
    refine bodyPost_ret (v := .tuple #[.int .i64 5, .int .i64 1, .int .i64 0, .int .i64 0]) (by simp [results, Tryz.results90, go_sem]) rfl ⟨rfl, Below.refl _ _⟩
  rw [if_neg h10]
  have d10 := u8_nb h10 (m := 10) rfl
  clear h10
  by_cases h35 : c = 35
  · have d35 : ((c.toNat : Int) == 35) = true := by subst h35; rfl
    rw [if_pos (.inl h35)]
    clear hP1 hP2 hA hSg hl h2 hd h35
    obtain ⟨x1, x2, x3, x4, hx⟩ := lrV_four (remT (remS (c :: r)) 6)
    rw [hx] at hR ⊢
    clear hx
    go_enter Tryz.func90, Tryz.ntmps90
    go_wp2_with fail
    refine (hLe _).mono ?_
    rintro _ _ ⟨rfl, rfl⟩
    go_wp2_with fail
    refine (hDi _).mono ?_
    rintro _ _ ⟨rfl, rfl⟩
    go_wp2_with fail
    refine (hR _ hT).mono ?_
    rintro _ w1 ⟨rfl, hb1⟩
    go_wp2
    refine bodyPost_ret (v := .tuple #[.int .i64 x1, .int .i64 x2, .int .i64 x3, .int .i64 x4]) (by simp [results, Tryz.results90, go_sem]) rfl ⟨rfl, hb1⟩
  have d35 := u8_nb h35 (m := 35) rfl
  by_cases h47 : c = 47 ∧ r.head? = some 47
  · rw [if_pos (.inr h47)]
    rw [decide_eq_true h47] at hP1
    clear hP2 hA hSg hl h2 hd h35 h47
    obtain ⟨x1, x2, x3, x4, hx⟩ := lrV_four (remT (remS (c :: r)) 6)
    rw [hx] at hR ⊢
    clear hx
    go_enter Tryz.func90, Tryz.ntmps90
    go_wp2_with fail
    refine (hLe _).mono ?_
    rintro _ _ ⟨rfl, rfl⟩
    go_wp2_with fail
    refine (hDi _).mono ?_
    rintro _ _ ⟨rfl, rfl⟩
    go_wp2_with fail
    refine (hP1 _).mono ?_
    rintro _ _ ⟨rfl, rfl⟩
    go_wp2_with fail
    refine (hR _ hT).mono ?_
    rintro _ w1 ⟨rfl, hb1⟩
    go_wp2
    refine bodyPost_ret (v := .tuple #[.int .i64 x1, .int .i64 x2, .int .i64 x3, .int .i64 x4]) (by simp [results, Tryz.results90, go_sem]) rfl ⟨rfl, hb1⟩
  rw [if_neg (by rintro (h | h); (· exact h35 h); (· exact h47 h))]
  rw [decide_eq_false h47] at hP1
  clear h35 h47 hR
  by_cases h42 : c = 47 ∧ r.head? = some 42
  · rw [if_pos h42]
    rw [decide_eq_true h42] at hP2
    have hA2 := fun W h => hA W h (h2 h42.2)
    clear hA hSg hl h2 hd h42
    obtain ⟨x1, x2, x3, x4, hx⟩ := lrV_four (aside1 (c :: r))
    rw [hx] at hA2 ⊢
    clear hx
    go_enter Tryz.func90, Tryz.ntmps90
    go_wp2_with fail
    refine (hLe _).mono ?_
    rintro _ _ ⟨rfl, rfl⟩
    go_wp2_with fail
    refine (hDi _).mono ?_
    rintro _ _ ⟨rfl, rfl⟩
    go_wp2_with fail
    refine (hP1 _).mono ?_
    rintro _ _ ⟨rfl, rfl⟩
    go_wp2_with fail
    refine (hP2 _).mono ?_
    rintro _ _ ⟨rfl, rfl⟩
    go_wp2_with fail
    refine (hA2 _ hT).mono ?_
    rintro _ w1 ⟨rfl, hb1⟩
    go_wp2
    refine bodyPost_ret (v := .tuple #[.int .i64 x1, .int .i64 x2, .int .i64 x3, .int .i64 x4]) (by simp [results, Tryz.results90, go_sem]) rfl ⟨rfl, hb1⟩
  rw [if_neg h42]
  rw [decide_eq_false h42] at hP2
  clear h42 hA h2 hl hd
  generalize sgN (c :: r) = n at *
  by_cases hn : n = 0
  · subst hn
    rw [if_pos rfl]
    simp only [lrV]
    go_enter Tryz.func90, Tryz.ntmps90
    go_wp2_with fail
    refine (hLe _).mono ?_
    rintro _ _ ⟨rfl, rfl⟩
    go_wp2_with fail
    refine (hDi _).mono ?_
    rintro _ _ ⟨rfl, rfl⟩
    go_wp2_with fail
    refine (hP1 _).mono ?_
    rintro _ _ ⟨rfl, rfl⟩
    go_wp2_with fail
    refine (hP2 _).mono ?_
    rintro _ _ ⟨rfl, rfl⟩
    go_wp2_with fail
    refine (hSg _ hT).mono ?_
    rintro _ _ ⟨rfl, rfl⟩
    go_wp2
    refine bodyPost_ret (v := .tuple #[.int .i64 0, .int .i64 0, .int .i64 0, .int .i64 3]) (by simp [results, Tryz.results90, go_sem]) rfl ⟨rfl, Below.refl _ _⟩
  · rw [if_neg hn]
    have hn2 : 0 < n := by omega
    simp only [lrV]
    clear hn
    go_enter Tryz.func90, Tryz.ntmps90
    go_wp2_with fail
    refine (hLe _).mono ?_
    rintro _ _ ⟨rfl, rfl⟩
    go_wp2_with fail
    refine (hDi _).mono ?_
    rintro _ _ ⟨rfl, rfl⟩
    go_wp2_with fail
    refine (hP1 _).mono ?_
    rintro _ _ ⟨rfl, rfl⟩
    go_wp2_with fail
    refine (hP2 _).mono ?_
    rintro _ _ ⟨rfl, rfl⟩
    go_wp2_with fail
    refine (hSg _ hT).mono ?_
    rintro _ _ ⟨rfl, rfl⟩
    go_wp2
    refine bodyPost_ret (v := .tuple #[.int .i64 4, .int .i64 (n : Nat), .int .i64 0, .int .i64 0]) (by simp [results, Tryz.results90, go_sem]) rfl ⟨rfl, Below.refl _ _⟩
end Go.Proofs.YtjlikcfabekhlaaGreatDoor

/- The walk of the reference's one: numbers, quoted texts, comments up to the line's end (layer 11). -/
namespace Go.Proofs.YtjlikcfabekhlaaGreatDoor
open Go.RowKit Go.Tab

theorem ext_mid (s : ByteArray) (k n : Nat) : (s.extract k (k + n)).data.toList = (s.data.toList.drop k).take n := by rw [ext_list, List.drop_take]; congr 1; omega

set_option maxHeartbeats 4000000 in
set_option maxRecDepth 100000 in
theorem one_number (s : ByteArray) (k : Nat) (w : World) (hs : s.size ≤ 100000) (hk : k < s.size) (hl : letB (s[k]'hk) = false) (h : dg (s[k]'hk) = true) :
    Calls Tryz.prog 38 #[.string s, .int .i64 (k : Nat)] w (OneP w s k (num1 (s.data.toList.drop k))) := by
  have d10 := u8_nb (dg_ne h (d := 10) rfl) (m := 10) rfl
  have hdr := dg_lt h
  have hLe := Letter_any (s[k]'hk)
  rw [hl] at hLe
  have hS := fun W => rScan_any (s.extract k s.size) W (by rw [ByteArray.size_extract]; omega)
  rw [ext_drop] at hS
  have hle := scanN_le (s.data.toList.drop k)
  rw [List.length_drop, ← size_list] at hle
  have hP := fun W => rParseD_any (s.extract k (k + scanN (s.data.toList.drop k))) W (by rw [ByteArray.size_extract]; omega)
  rw [ext_mid] at hP
  unfold num1 decE
  clear hl h
  generalize scanN (s.data.toList.drop k) = n at *
  obtain ⟨⟨⟨b, d, x⟩, z⟩, hR⟩ : ∃ r, decR ((s.data.toList.drop k).take n) = r := ⟨_, rfl⟩
  rw [hR] at hP ⊢
  simp only [numOut] at hP ⊢
  clear hR
  have hb : Below w.heap.size w (w.alloc (.cells #[.slice none 0 0, .int .i64 0, .int .i64 0] 26)) := (Below.refl _ w).alloc (Nat.le_refl _) _
  have hbx := Cells.new w #[.slice none 0 0, .int .i64 0, .int .i64 0] 26
  by_cases hz : z = 0
  · subst hz
    rw [if_pos rfl]
    go_enter Tryz.func38, Tryz.ntmps38
    go_wp2_with fail
    refine (hLe _).mono ?_
    rintro _ _ ⟨rfl, hw1⟩
    cases hw1
    go_wp2_with fail
    refine (hS _).mono ?_
    rintro _ _ ⟨rfl, hw1⟩
    cases hw1
    go_wp2_with fail
    refine (hP _).mono ?_
    rintro _ w1 ⟨rfl, hb1⟩
    have hbx1 := (hbx.below hb1 hbx.lt).alloc (.cells #[.bool b, .string (strL d), .int .i64 x] 106)
    have hb2 := (hb.trans (hb1.mono hb.size)).alloc (Nat.le_trans hb.size hb1.size) (.cells #[.bool b, .string (strL d), .int .i64 x] 106)
    clear hb hbx hb1 hP hS
    have hb := hb2
    have hbx := hbx1
    clear hb2 hbx1
    go_wp2_with fail
    refine (token_any s k n 2 _ (by omega) (by omega)).mono ?_
    rintro _ w2 ⟨v, rfl, hown, hb2⟩
    obtain ⟨hc2, hown2, hbe, -⟩ := tell_box (a := 0) (e := 0) hb hbx hb2.size hown hb2
    obtain ⟨va, vc, hve⟩ := hown.len
    (try simp only [List.length_cons, List.length_nil, Nat.zero_add] at hve)
    subst hve
    have hl2 := hc2.lt
    have HX := Lib.hid (And.intro hown2 (And.intro hbe hc2))
    clear hown hb2 hown2 hbe hb hbx
    have hc2c0 := hc2.cell 0 _ rfl
    have hc2f0 := hc2.frozen 0
    have hc2c1 := hc2.cell 1 _ rfl
    have hc2f1 := hc2.frozen 1
    have hc2c2 := hc2.cell 2 _ rfl
    have hc2f2 := hc2.frozen 2
    go_wp2
    obtain ⟨hown2, hbe, hce⟩ := HX.out
    have hq := ((hce.setI 0 (.slice va 1 vc)).setI 1 (.int .i64 0)).setI 2 (.int .i64 0)
    have hx := hq.cell 0 _ rfl
    have hy := hq.cell 1 _ rfl
    have hz := hq.cell 2 _ rfl
    refine bodyPost_ret (v := .agg #[.slice va 1 vc, .int .i64 0, .int .i64 0]) (by simp [results, Tryz.results38, go_sem, hx, hy, hz]) rfl ?_
    exact ⟨_, rfl, hown2, hbe⟩
  · have hz2 : (z != 0) = true := by simpa using hz
    rw [if_neg hz]
    go_enter Tryz.func38, Tryz.ntmps38
    go_wp2_with fail
    refine (hLe _).mono ?_
    rintro _ _ ⟨rfl, hw1⟩
    cases hw1
    go_wp2_with fail
    refine (hS _).mono ?_
    rintro _ _ ⟨rfl, hw1⟩
    cases hw1
    go_wp2_with fail
    refine (hP _).mono ?_
    rintro _ w1 ⟨rfl, hb1⟩
    have hbx1 := hbx.below hb1 hbx.lt
    have HB := Lib.hid (hb.trans (hb1.mono hb.size))
    have hl1 := hbx1.lt
    have HC := Lib.hid hbx1
    clear hb hbx hb1 hP hS
    have hbx1c0 := hbx1.cell 0 _ rfl
    have hbx1f0 := hbx1.frozen 0
    have hbx1c1 := hbx1.cell 1 _ rfl
    have hbx1f1 := hbx1.frozen 1
    have hbx1c2 := hbx1.cell 2 _ rfl
    have hbx1f2 := hbx1.frozen 2
    clear hbx1
    go_wp2
    have hq := ((((HC.out).setI 0 (.slice none 0 0)).setI 1 (.int .i64 (k : Nat))).setI 2 (.int .i64 z)).alloc (.cells #[.bool b, .string (strL d), .int .i64 x] 106)
    have hx := hq.cell 0 _ rfl
    have hy := hq.cell 1 _ rfl
    have hz := hq.cell 2 _ rfl
    refine bodyPost_ret (v := .agg #[.slice none 0 0, .int .i64 (k : Nat), .int .i64 z]) (by simp [results, Tryz.results38, go_sem, hx, hy, hz]) rfl ?_
    exact ⟨_, by simp [lrT], OwnT.nil, (setAll_below _ _ (Nat.le_refl _) [.slice none 0 0, .int .i64 (k : Nat), .int .i64 z] 0 _ _ HB.out).alloc (by rw [setAll_size]; exact HB.out.size) _⟩

set_option maxHeartbeats 4000000 in
set_option maxRecDepth 100000 in
theorem one_quoted (s : ByteArray) (k : Nat) (w : World) (hs : s.size ≤ 100000) (hk : k < s.size) (h : s[k]'hk = 34) :
    Calls Tryz.prog 38 #[.string s, .int .i64 (k : Nat)] w (OneP w s k (quo1 (s.data.toList.drop k))) := by
  have hcn : (s[k]'hk).toNat = 34 := by rw [h]; rfl
  have hLe := Letter_any 34
  rw [show letB 34 = false from rfl] at hLe
  have hQ := fun W => qrScan_any (s.extract k s.size) W (by rw [ByteArray.size_extract]; omega)
  rw [show bs (s.extract k s.size) = nb (s.data.toList.drop k) by unfold bs nb; rw [ext_drop]] at hQ
  unfold quo1
  have hsz := fun h => (scanQ_size (nb_byt (s.data.toList.drop k)) h).2
  rw [nb_len, List.length_drop, ← size_list] at hsz
  clear h
  generalize scanQ (nb (s.data.toList.drop k)) = q at *
  obtain ⟨qs, qn, qe⟩ := q
  simp only [partV] at hQ hsz ⊢
  generalize strOf (un qs) = qs at *
  have hb : Below w.heap.size w (w.alloc (.cells #[.slice none 0 0, .int .i64 0, .int .i64 0] 26)) := (Below.refl _ w).alloc (Nat.le_refl _) _
  have hbx := Cells.new w #[.slice none 0 0, .int .i64 0, .int .i64 0] 26
  by_cases he : qe = 0
  · subst he
    have hle := hsz rfl
    rw [if_pos rfl]
    clear hsz
    go_enter Tryz.func38, Tryz.ntmps38
    go_wp2_with fail
    refine (hLe _).mono ?_
    rintro _ _ ⟨rfl, hw1⟩
    cases hw1
    go_wp2_with fail
    refine (hQ _).mono ?_
    rintro _ w1 ⟨rfl, hb1⟩
    have hbx1 := (hbx.below hb1 hbx.lt).alloc (.cells #[.string qs, .int .i64 (qn : Int), .int .i64 ((0 : Nat) : Int)] 110)
    have hb2 := (hb.trans (hb1.mono hb.size)).alloc (Nat.le_trans hb.size hb1.size) (.cells #[.string qs, .int .i64 (qn : Int), .int .i64 ((0 : Nat) : Int)] 110)
    clear hb hbx hb1 hQ
    have hb := hb2
    have hbx := hbx1
    clear hb2 hbx1
    go_wp2_with fail
    refine (token_any s k qn 3 _ (by omega) (by omega)).mono ?_
    rintro _ w2 ⟨v, rfl, hown, hb2⟩
    obtain ⟨hc2, hown2, hbe, -⟩ := tell_box (a := 0) (e := 0) hb hbx hb2.size hown hb2
    obtain ⟨va, vc, hve⟩ := hown.len
    (try simp only [List.length_cons, List.length_nil, Nat.zero_add] at hve)
    subst hve
    have hl2 := hc2.lt
    have HX := Lib.hid (And.intro hown2 (And.intro hbe hc2))
    clear hown hb2 hown2 hbe hb hbx
    have hc2c0 := hc2.cell 0 _ rfl
    have hc2f0 := hc2.frozen 0
    have hc2c1 := hc2.cell 1 _ rfl
    have hc2f1 := hc2.frozen 1
    have hc2c2 := hc2.cell 2 _ rfl
    have hc2f2 := hc2.frozen 2
    go_wp2
    obtain ⟨hown2, hbe, hce⟩ := HX.out
    have hq := ((hce.setI 0 (.slice va 1 vc)).setI 1 (.int .i64 0)).setI 2 (.int .i64 0)
    have hx := hq.cell 0 _ rfl
    have hy := hq.cell 1 _ rfl
    have hz := hq.cell 2 _ rfl
    refine bodyPost_ret (v := .agg #[.slice va 1 vc, .int .i64 0, .int .i64 0]) (by simp [results, Tryz.results38, go_sem, hx, hy, hz]) rfl ?_
    exact ⟨_, rfl, hown2, hbe⟩
  · have he2 : ((qe : Int) != 0) = true := by rw [bne_iff_ne]; omega
    rw [if_neg (by omega)]
    clear he hsz
    go_enter Tryz.func38, Tryz.ntmps38
    go_wp2_with fail
    refine (hLe _).mono ?_
    rintro _ _ ⟨rfl, hw1⟩
    cases hw1
    go_wp2_with fail
    refine (hQ _).mono ?_
    rintro _ w1 ⟨rfl, hb1⟩
    have hbx1 := hbx.below hb1 hbx.lt
    have HB := Lib.hid (hb.trans (hb1.mono hb.size))
    have hl1 := hbx1.lt
    have HC := Lib.hid hbx1
    clear hb hbx hb1 hQ
    have hbx1c0 := hbx1.cell 0 _ rfl
    have hbx1f0 := hbx1.frozen 0
    have hbx1c1 := hbx1.cell 1 _ rfl
    have hbx1f1 := hbx1.frozen 1
    have hbx1c2 := hbx1.cell 2 _ rfl
    have hbx1f2 := hbx1.frozen 2
    clear hbx1
    go_wp2
    have hq := ((((HC.out).setI 0 (.slice none 0 0)).setI 1 (.int .i64 (k : Nat))).setI 2 (.int .i64 (qe : Nat))).alloc (.cells #[.string qs, .int .i64 (qn : Int), .int .i64 (qe : Int)] 110)
    have hx := hq.cell 0 _ rfl
    have hy := hq.cell 1 _ rfl
    have hz := hq.cell 2 _ rfl
    refine bodyPost_ret (v := .agg #[.slice none 0 0, .int .i64 (k : Nat), .int .i64 (qe : Nat)]) (by simp [results, Tryz.results38, go_sem, hx, hy, hz]) rfl ?_
    exact ⟨_, by simp [lrT], OwnT.nil, (setAll_below _ _ (Nat.le_refl _) [.slice none 0 0, .int .i64 (k : Nat), .int .i64 (qe : Nat)] 0 _ _ HB.out).alloc (by rw [setAll_size]; exact HB.out.size) _⟩

theorem trimS_snoc (a : Bs) (b : UInt8) (cs : Bs) : Lib.trimRightS (a ++ [b]) cs = if cs.contains b then Lib.trimRightS a cs else a ++ [b] := by
  unfold Lib.trimRightS
  rw [List.reverse_append, List.reverse_singleton, List.singleton_append, List.dropWhile_cons]
  by_cases h : cs.contains b = true
  · rw [if_pos h, if_pos h]
  · rw [if_neg h, if_neg h]; simp
theorem lineN_pre (l : Bs) {c : UInt8} {r : Bs} (h : l = c :: r) (hc : c ≠ 10) : 1 ≤ lineN l := by
  rw [h, lineN, if_neg hc]; omega

set_option maxHeartbeats 4000000 in
set_option maxRecDepth 100000 in
theorem one_remark (s : ByteArray) (k : Nat) (w : World) (hs : s.size ≤ 100000) (hk : k < s.size) (hc : s[k]'hk = 35 ∨ (s[k]'hk = 47 ∧ (s.data.toList.drop (k + 1)).head? = some 47)) :
    Calls Tryz.prog 38 #[.string s, .int .i64 (k : Nat)] w (OneP w s k (remT (remS (s.data.toList.drop k)) 6)) := by
  have hd := drop_at hk
  obtain ⟨L, hL⟩ : ∃ L, (s.data.toList.drop k).take (lineN (s.data.toList.drop k)) = L := ⟨_, rfl⟩
  obtain ⟨ln, hln⟩ : ∃ ln, lineN (s.data.toList.drop k) = ln := ⟨_, rfl⟩
  have hle := lineN_le (s.data.toList.drop k)
  rw [hln, List.length_drop, ← size_list] at hle
  have hLl : L.length = ln := by rw [← hL, hln, List.length_take, List.length_drop, ← size_list]; omega
  have hrs : remS (s.data.toList.drop k) = Lib.trimRightS L blanksB := by unfold remS; rw [hL]
  have hlt : ∀ j, j ≤ ln → (s.data.toList.take (k + j)).drop k = L.take j := by
    intro j hj
    rw [← hL, hln, List.take_take, Nat.min_eq_left hj, List.drop_take]; congr 1; omega
  have hget : ∀ j, j < ln → ∃ h2 : k + j < s.size, L[j]? = some (s[k + j]'h2) := by
    intro j h1
    have h2 : k + j < s.size := by omega
    have h3 : (s.data.toList.drop k)[j]? = some (s[k + j]'h2) := by
      rw [List.getElem?_drop, get_list, List.getElem?_eq_getElem]
    refine ⟨h2, ?_⟩
    rw [← h3, ← hL, List.getElem?_take, if_pos (by omega)]
  have h1 : 1 ≤ ln := by
    rw [← hln]
    refine lineN_pre _ hd ?_
    rcases hc with h | ⟨h, -⟩ <;> rw [h] <;> decide
  have hb0 : blankB (s[k]'hk) = false := by rcases hc with h | ⟨h, -⟩ <;> rw [h] <;> rfl
  have hE := fun W => end_any s k W (by omega) (by omega)
  rw [hln] at hE
  rw [hrs]
  have hIs := fun W => is_any s k ⟨#[47, 47]⟩ W (by omega) (by omega) (by decide)
  rw [show (⟨#[47, 47]⟩ : ByteArray).data.toList.isPrefixOf (s.data.toList.drop k) = decide (s[k]'hk = 47 ∧ (s.data.toList.drop (k + 1)).head? = some 47) by rw [hd]; exact pfx2 47 47 _ _] at hIs
  have hCm := fun j W (hj : j ≤ ln) => comment_any s k (k + j) 6 W hs (by omega) (by omega)
  have hCm2 : ∀ j W, j ≤ ln → Calls Tryz.prog 69 #[.string s, .int .i64 (k : Nat), .int .i64 ((k + j : Nat) : Int), .int .i64 ((6 : Nat) : Int)] W (TellP W (lrT s k (remT (L.take j) 6)).1 (lrT s k (remT (L.take j) 6)).2.1 (lrT s k (remT (L.take j) 6)).2.2) := fun j W hj => by
    have := hCm j W hj
    rw [hlt j hj] at this
    exact this
  have HCM := Lib.hid hCm2
  have HG := Lib.hid hget
  have HB0 := Lib.hid hb0
  have HLL := Lib.hid hLl
  clear hCm hCm2 hlt hL hln hd hrs hget hb0 hLl
  have hb : Below w.heap.size w (w.alloc (.cells #[.slice none 0 0, .int .i64 0, .int .i64 0] 26)) := (Below.refl _ w).alloc (Nat.le_refl _) _
  have hbx := Cells.new w #[.slice none 0 0, .int .i64 0, .int .i64 0] 26
  have HH := Lib.hid (And.intro hb hbx)
  rcases hc with hc | ⟨hc, hr⟩
  · have hcn : (s[k]'hk).toNat = 35 := by rw [hc]; rfl
    have hLe := Letter_any 35
    rw [show letB 35 = false from rfl] at hLe
    clear hc hIs hb hbx
    go_enter Tryz.func38, Tryz.ntmps38
    go_wp2_with fail
    refine (hLe _).mono ?_
    rintro _ _ ⟨rfl, hw1⟩
    cases hw1
    go_wp2_with fail
    refine (hE _).mono ?_
    rintro _ _ ⟨rfl, hw1⟩
    cases hw1
    go_wp2_with fail
    go_loop [10] (fun n => ∃ m : Nat, n = .int .i64 (((k + m : Nat) : Int) + 1) ∧ m < ln ∧ Lib.trimRightS (L.take (m + 1)) blanksB = Lib.trimRightS L blanksB) (fun n => (intOf n).toNat)
    case atStart => exact ⟨ln - 1, by congr 1; omega, by omega, by rw [List.take_of_length_le (by rw [HLL.out]; omega)]⟩
    case round =>
      obtain ⟨m, rfl, hm, hI⟩ := hrel
      obtain ⟨hjs, hjg⟩ := HG.out m hm
      have hTk : L.take (m + 1) = L.take m ++ [s[k + m]'hjs] := by rw [List.take_add_one, hjg]; rfl
      rw [hTk, trimS_snoc, ← hTk] at hI
      have hBl := Blank_any (s[k + m]'hjs)
      cases hbl : blankB (s[k + m]'hjs) with
      | true =>
        rw [hbl] at hBl
        rw [show blanksB.contains (s[k + m]'hjs) = true from hbl, if_pos rfl] at hI
        have hm0 : m ≠ 0 := by
          rintro rfl
          have := HB0.out
          simp only [Nat.add_zero] at hbl
          rw [hbl] at this; cases this
        have HI := Lib.hid hI
        clear hI hTk hjg hbl
        go_wp2_with fail
        refine (hBl _).mono ?_
        rintro _ _ ⟨rfl, hw1⟩
        cases hw1
        go_wp2
        go_round
        case rel => exact ⟨m - 1, by congr 1; omega, by omega, by rw [show m - 1 + 1 = m by omega]; exact HI.out⟩
        case measure => simp [intOf]; omega
      | false =>
        rw [hbl] at hBl
        rw [show blanksB.contains (s[k + m]'hjs) = false from hbl, if_neg (by simp)] at hI
        have HI := Lib.hid hI
        have hC := HCM.out (m + 1) (w.alloc (.cells #[.slice none 0 0, .int .i64 0, .int .i64 0] 26)) hm
        rw [show ((k + (m + 1) : Nat) : Int) = ((k + m : Nat) : Int) + 1 by omega] at hC
        clear hI hTk hjg hbl
        obtain ⟨⟨tl, ta, te⟩, hx⟩ : ∃ x, lrT s k (remT (L.take (m + 1)) 6) = x := ⟨_, rfl⟩
        rw [hx] at hC
        have HX0 := Lib.hid hx
        clear hx
        simp only at hC
        go_wp2_with fail
        refine (hBl _).mono ?_
        rintro _ _ ⟨rfl, hw1⟩
        cases hw1
        go_wp2_with fail
        obtain ⟨hb, hbx⟩ := HH.out
        refine (hC).mono ?_
        rintro _ w2 ⟨v, rfl, hown, hb2⟩
        obtain ⟨hc2, hown2, hbe, -⟩ := tell_box (a := ta) (e := te) hb hbx hb2.size hown hb2
        obtain ⟨va, vc, hve⟩ := hown.len
        (try simp only [List.length_cons, List.length_nil, Nat.zero_add] at hve)
        subst hve
        have hl2 := hc2.lt
        have HX := Lib.hid (And.intro hown2 (And.intro hbe hc2))
        clear hown hb2 hown2 hbe hb hbx
        have hc2c0 := hc2.cell 0 _ rfl
        have hc2f0 := hc2.frozen 0
        have hc2c1 := hc2.cell 1 _ rfl
        have hc2f1 := hc2.frozen 1
        have hc2c2 := hc2.cell 2 _ rfl
        have hc2f2 := hc2.frozen 2
        go_wp2
        obtain ⟨hown2, hbe, hce⟩ := HX.out
        have hq := ((hce.setI 0 (.slice va tl.length vc)).setI 1 (.int .i64 ta)).setI 2 (.int .i64 te)
        have hx := hq.cell 0 _ rfl
        have hy := hq.cell 1 _ rfl
        have hz := hq.cell 2 _ rfl
        refine bodyPost_ret (v := .agg #[.slice va tl.length vc, .int .i64 ta, .int .i64 te]) (by simp [results, Tryz.results38, go_sem, hx, hy, hz]) rfl ?_
        unfold OneP
        rw [← HI.out, HX0.out]
        exact ⟨_, rfl, hown2, hbe⟩
  · have hcn : (s[k]'hk).toNat = 47 := by rw [hc]; rfl
    have hLe := Letter_any 47
    rw [show letB 47 = false from rfl] at hLe
    rw [decide_eq_true ⟨hc, hr⟩] at hIs
    clear hc hr hb hbx
    go_enter Tryz.func38, Tryz.ntmps38
    go_wp2_with fail
    refine (hLe _).mono ?_
    rintro _ _ ⟨rfl, hw1⟩
    cases hw1
    go_wp2_with fail
    refine (hIs _).mono ?_
    rintro _ _ ⟨rfl, hw1⟩
    cases hw1
    go_wp2_with fail
    refine (hE _).mono ?_
    rintro _ _ ⟨rfl, hw1⟩
    cases hw1
    go_wp2_with fail
    go_loop [10] (fun n => ∃ m : Nat, n = .int .i64 (((k + m : Nat) : Int) + 1) ∧ m < ln ∧ Lib.trimRightS (L.take (m + 1)) blanksB = Lib.trimRightS L blanksB) (fun n => (intOf n).toNat)
    case atStart => exact ⟨ln - 1, by congr 1; omega, by omega, by rw [List.take_of_length_le (by rw [HLL.out]; omega)]⟩
    case round =>
      obtain ⟨m, rfl, hm, hI⟩ := hrel
      obtain ⟨hjs, hjg⟩ := HG.out m hm
      have hTk : L.take (m + 1) = L.take m ++ [s[k + m]'hjs] := by rw [List.take_add_one, hjg]; rfl
      rw [hTk, trimS_snoc, ← hTk] at hI
      have hBl := Blank_any (s[k + m]'hjs)
      cases hbl : blankB (s[k + m]'hjs) with
      | true =>
        rw [hbl] at hBl
        rw [show blanksB.contains (s[k + m]'hjs) = true from hbl, if_pos rfl] at hI
        have hm0 : m ≠ 0 := by
          rintro rfl
          have := HB0.out
          simp only [Nat.add_zero] at hbl
          rw [hbl] at this; cases this
        have HI := Lib.hid hI
        clear hI hTk hjg hbl
        go_wp2_with fail
        refine (hBl _).mono ?_
        rintro _ _ ⟨rfl, hw1⟩
        cases hw1
        go_wp2
        go_round
        case rel => exact ⟨m - 1, by congr 1; omega, by omega, by rw [show m - 1 + 1 = m by omega]; exact HI.out⟩
        case measure => simp [intOf]; omega
      | false =>
        rw [hbl] at hBl
        rw [show blanksB.contains (s[k + m]'hjs) = false from hbl, if_neg (by simp)] at hI
        have HI := Lib.hid hI
        have hC := HCM.out (m + 1) (w.alloc (.cells #[.slice none 0 0, .int .i64 0, .int .i64 0] 26)) hm
        rw [show ((k + (m + 1) : Nat) : Int) = ((k + m : Nat) : Int) + 1 by omega] at hC
        clear hI hTk hjg hbl
        obtain ⟨⟨tl, ta, te⟩, hx⟩ : ∃ x, lrT s k (remT (L.take (m + 1)) 6) = x := ⟨_, rfl⟩
        rw [hx] at hC
        have HX0 := Lib.hid hx
        clear hx
        simp only at hC
        go_wp2_with fail
        refine (hBl _).mono ?_
        rintro _ _ ⟨rfl, hw1⟩
        cases hw1
        go_wp2_with fail
        obtain ⟨hb, hbx⟩ := HH.out
        refine (hC).mono ?_
        rintro _ w2 ⟨v, rfl, hown, hb2⟩
        obtain ⟨hc2, hown2, hbe, -⟩ := tell_box (a := ta) (e := te) hb hbx hb2.size hown hb2
        obtain ⟨va, vc, hve⟩ := hown.len
        (try simp only [List.length_cons, List.length_nil, Nat.zero_add] at hve)
        subst hve
        have hl2 := hc2.lt
        have HX := Lib.hid (And.intro hown2 (And.intro hbe hc2))
        clear hown hb2 hown2 hbe hb hbx
        have hc2c0 := hc2.cell 0 _ rfl
        have hc2f0 := hc2.frozen 0
        have hc2c1 := hc2.cell 1 _ rfl
        have hc2f1 := hc2.frozen 1
        have hc2c2 := hc2.cell 2 _ rfl
        have hc2f2 := hc2.frozen 2
        go_wp2
        obtain ⟨hown2, hbe, hce⟩ := HX.out
        have hq := ((hce.setI 0 (.slice va tl.length vc)).setI 1 (.int .i64 ta)).setI 2 (.int .i64 te)
        have hx := hq.cell 0 _ rfl
        have hy := hq.cell 1 _ rfl
        have hz := hq.cell 2 _ rfl
        refine bodyPost_ret (v := .agg #[.slice va tl.length vc, .int .i64 ta, .int .i64 te]) (by simp [results, Tryz.results38, go_sem, hx, hy, hz]) rfl ?_
        unfold OneP
        rw [← HI.out, HX0.out]
        exact ⟨_, rfl, hown2, hbe⟩
end Go.Proofs.YtjlikcfabekhlaaGreatDoor
