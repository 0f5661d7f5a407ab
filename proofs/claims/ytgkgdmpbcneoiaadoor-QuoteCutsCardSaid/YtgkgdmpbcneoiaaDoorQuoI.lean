/- The walks of the reference's coded parts (layer 7). -/
import Derived.Test.YtgkgdmpbcneoiaaDoorQuoH
import Derived.Test.YtgkgdmpbcneoiaaDoorUtfG
import Derived.Test.YtgkgdmpbcneoiaaDoorBox
import Derived.IntWalk
namespace Go.Proofs.YtgkgdmpbcneoiaaDoor
open Go.RowKit Go.Tab

/-- The sums of an index, laid for a region that draws its order. -/
theorem lay6 {k n : Nat} (h : k + 6 < n) (hn : n ≤ 100000) : IntKind.i64.wrap ((k : Int) + 6) = (k : Int) + 6 ∧ (0 ≤ (k : Int) + 6 ∧ (k : Int) + 6 < (n : Int)) ∧ ((k : Int) + 6).toNat = k + 6 :=
  ⟨IntWalk.i64_in _ (by omega), by omega, by omega⟩
theorem lay7 {k n : Nat} (h : k + 6 + 1 < n) (hn : n ≤ 100000) : IntKind.i64.wrap ((k : Int) + 6 + 1) = (k : Int) + 6 + 1 ∧ (0 ≤ (k : Int) + 6 + 1 ∧ (k : Int) + 6 + 1 < (n : Int)) ∧ ((k : Int) + 6 + 1).toNat = k + 6 + 1 :=
  ⟨IntWalk.i64_in _ (by omega), by omega, by omega⟩
def partV (q : PartR) : Value := .agg #[.string (strOf (un q.1)), .int .i64 (q.2.1 : Int), .int .i64 (q.2.2 : Int)]

set_option maxHeartbeats 4000000 in
set_option maxRecDepth 100000 in
theorem rcoded_any (s : ByteArray) (k : Nat) (w : World) (hk : k + 2 ≤ s.size) (hs : s.size ≤ 100000) :
    Calls Tryd.prog 31 #[.string s, .int .i64 (k : Int)] w fun e w' => e = .returned (partV (codedQ ((bs s).drop (k + 2)))) ∧ Below w.heap.size w w' := by
  have h4 := fun W => runit_any s (k + 2) W hk (by omega)
  obtain ⟨r, hr⟩ : ∃ r, r = (bs s).drop (k + 2) := ⟨_, rfl⟩
  rw [← hr] at h4 ⊢
  simp only [Int.natCast_add, Int.cast_ofNat_Int] at h4
  by_cases hu : (unitQ r).2 = 0
  · obtain ⟨hv1, hv2⟩ := unitQ_val hu
    obtain ⟨n, hn⟩ : ∃ n, n = (unitQ r).1 := ⟨_, rfl⟩
    have hlen : k + 6 ≤ s.size := by rw [hr] at hv1; simp [bs_length] at hv1; omega
    rw [← hn] at hv2 h4
    rw [hu] at h4
    simp only [Int.cast_ofNat_Int] at h4
    by_cases h1 : 56320 ≤ n ∧ n ≤ 57343
    · have HC : Hid (codedQ r = errR 3) := Lib.hid (by unfold codedQ; rw [if_neg (by simp [hu]), if_pos (by rw [← hn]; exact h1)])
      have b1 : decide ((56320 : Int) ≤ (n : Int)) = true := by simp; omega
      have b2 : decide ((n : Int) ≤ 57343) = true := by simp; omega
      clear hu hn hr hv1 h1 hv2
      go_enter Tryd.func31, Tryd.ntmps31
      go_wp2_with fail
      refine (h4 _).mono ?_
      rintro e w1 ⟨rfl, rfl⟩
      go_wp2
      refine bodyPost_ret (v := partV (errR 3)) (by simp [results, Tryd.results31, go_sem, partV, errR, un, strOf]) rfl ⟨by rw [HC.out], ?_⟩
      (repeat' (first | (with_reducible refine Below.setCell ?_ ?_ _) | (with_reducible refine Below.alloc ?_ ?_ _) | (with_reducible refine Below.drew ?_) | (with_reducible assumption) | (with_reducible exact Below.refl _ _) | (simp only [World.size_alloc, World.size_setCell, World.size_drew]; done) | (simp only [World.size_alloc, World.size_setCell, World.size_drew]; omega) | omega))
    · by_cases h2 : n < 55296 ∨ 57343 < n
      · have HC : Hid (codedQ r = (putN n, 6, 0)) := Lib.hid (by unfold codedQ; rw [if_neg (by simp [hu]), if_neg (by rw [← hn]; exact h1), if_pos (by rw [← hn]; exact h2), ← hn])
        have hsc : isScI (n : Int) = true := by rw [isScI_nat, isSc_iff]; omega
        have hP := fun W => rPut_any (n : Int) W
        unfold rputL at hP
        rw [if_pos hsc, Int.toNat_natCast] at hP
        have h2' : (decide ((56320 : Int) ≤ (n : Int)) = false ∧ decide ((n : Int) < 55296) = true) ∨ (decide ((56320 : Int) ≤ (n : Int)) = true ∧ decide ((n : Int) ≤ 57343) = false ∧ decide ((n : Int) < 55296) = false ∧ decide ((57343 : Int) < (n : Int)) = true) := by
          rcases h2 with h2 | h2
          · exact .inl ⟨by simp; omega, by simp; omega⟩
          · exact .inr ⟨by simp; omega, by simp; omega, by simp; omega, by simp; omega⟩
        clear hu hn hr hv1 h2 hv2 hsc h1
        obtain ⟨S, hS⟩ : ∃ S, S = strOf (putU n) := ⟨_, rfl⟩
        rw [← hS] at hP
        have HS := Lib.hid hS
        clear hS
        rcases h2' with ⟨b1, b2⟩ | ⟨b1, b2, b3, b4⟩
        all_goals
          go_enter Tryd.func31, Tryd.ntmps31
          go_wp2_with fail
          refine (h4 _).mono ?_
          rintro e w1 ⟨rfl, rfl⟩
          go_wp2_with fail
          refine (hP _).mono ?_
          rintro e w2 ⟨rfl, hb2⟩
          have hz2 := hb2.size
          simp only [World.size_alloc] at hz2
          have hx2 := (Cells.new w #[.string ⟨#[]⟩, .int .i64 0, .int .i64 0] 27).below hb2 (by simp)
          have hx2c0 := hx2.cell 0 _ rfl
          have hx2f0 := hx2.frozen 0
          have hx2c1 := hx2.cell 1 _ rfl
          have hx2f1 := hx2.frozen 1
          have hx2c2 := hx2.cell 2 _ rfl
          have hx2f2 := hx2.frozen 2
          have hb3 : Below w.heap.size w w2 := ((Below.refl _ w).alloc (Nat.le_refl _) _).trans (hb2.mono (by simp))
          go_wp2
          refine bodyPost_ret (v := .agg #[.string S, .int .i64 6, .int .i64 0]) (by simp [results, Tryd.results31, go_sem, *]) rfl ⟨by rw [HC.out, HS.out]; rfl, ?_⟩
          (repeat' (first | (with_reducible refine Below.setCell ?_ ?_ _) | (with_reducible refine Below.alloc ?_ ?_ _) | (with_reducible refine Below.drew ?_) | (with_reducible assumption) | (with_reducible exact Below.refl _ _) | (simp only [World.size_alloc, World.size_setCell, World.size_drew]; done) | (simp only [World.size_alloc, World.size_setCell, World.size_drew]; omega) | omega))
      · have HC0 : Hid (codedQ r = lowQ n (r.drop 4)) := Lib.hid (by unfold codedQ; rw [if_neg (by simp [hu]), if_neg (by rw [← hn]; exact h1), if_neg (by rw [← hn]; exact h2), ← hn])
        have hr4 : r.drop 4 = (bs s).drop (k + 6) := by rw [hr, List.drop_drop]
        have hn3 : 55296 ≤ n ∧ n ≤ 56319 := by omega
        have b1 : decide ((56320 : Int) ≤ (n : Int)) = false := by simp; omega
        have b2 : decide ((n : Int) < 55296) = false := by simp; omega
        have b3 : decide ((57343 : Int) < (n : Int)) = false := by simp; omega
        have HN3 := Lib.hid hn3
        have HR := Lib.hid hr
        clear hu hn hv1 h1 h2 hv2 hr hn3
        cases hq : (bs s).drop (k + 6) with
        | nil =>
          have HC : Hid (codedQ r = errR 2) := Lib.hid (by rw [HC0.out, hr4, hq]; rfl)
          have hz := drop_nil_iff hlen hq
          have hz' : s.size ≤ k + 6 := by omega
          clear hq hr4 hz
          go_enter Tryd.func31, Tryd.ntmps31
          go_wp2_with fail
          refine (h4 _).mono ?_
          rintro e w1 ⟨rfl, rfl⟩
          go_wp2_with fail
          clear b1 b2 b3 h4
          refine wp_loop_rounds 1 ?_
          rw [rounds_succ]
          go_wp2
          refine bodyPost_ret (v := partV (errR 2)) (by simp [results, Tryd.results31, go_sem, partV, errR, un, strOf]) rfl ⟨by rw [HC.out], ?_⟩
          (repeat' (first | (with_reducible refine Below.setCell ?_ ?_ _) | (with_reducible refine Below.alloc ?_ ?_ _) | (with_reducible refine Below.drew ?_) | (with_reducible assumption) | (with_reducible exact Below.refl _ _) | (simp only [World.size_alloc, World.size_setCell, World.size_drew]; done) | (simp only [World.size_alloc, World.size_setCell, World.size_drew]; omega) | omega))
        | cons c t =>
          obtain ⟨hlt, hbv⟩ := bs_fact hq
          have hc : c < 256 := bs_lt c (List.mem_of_mem_drop (by rw [hq]; simp))
          have hlen2 : k + 6 < s.size := hlt
          by_cases hc92 : c = 92
          · subst hc92
            obtain ⟨hd, hd2⟩ := drop_cons hq
            rw [bs_length] at hd2
            have hrt : r.drop 4 = 92 :: t := by rw [hr4, hq]
            cases ht : t with
            | nil =>
              have HC : Hid (codedQ r = errR 2) := Lib.hid (by rw [HC0.out, hrt, ht]; rfl)
              have hz := drop_nil_iff (show k + 6 + 1 ≤ s.size by omega) (by rw [← ht]; exact hd)
              have hz' : s.size ≤ k + 6 + 1 := by omega
              clear hq hr4 hrt ht hd hz
              go_enter Tryd.func31, Tryd.ntmps31
              go_wp2_with fail
              refine (h4 _).mono ?_
              rintro e w1 ⟨rfl, rfl⟩
              go_wp2_with fail
              clear b1 b2 b3 h4
              refine wp_loop_rounds 2 ?_
              rw [rounds_succ]
              go_wp2_with fail
              obtain ⟨g1, g2, g3⟩ := lay6 hlen2 hs
              go_region
              clear g1 g2 g3
              go_wp2_with fail
              rw [rounds_succ]
              go_wp2
              refine bodyPost_ret (v := partV (errR 2)) (by simp [results, Tryd.results31, go_sem, partV, errR, un, strOf]) rfl ⟨by rw [HC.out], ?_⟩
              (repeat' (first | (with_reducible refine Below.setCell ?_ ?_ _) | (with_reducible refine Below.alloc ?_ ?_ _) | (with_reducible refine Below.drew ?_) | (with_reducible assumption) | (with_reducible exact Below.refl _ _) | (simp only [World.size_alloc, World.size_setCell, World.size_drew]; done) | (simp only [World.size_alloc, World.size_setCell, World.size_drew]; omega) | omega))
            | cons d u =>
              subst ht
              obtain ⟨hlt2, hbv2⟩ := bs_fact hd
              have hdl : d < 256 := bs_lt d (List.mem_of_mem_drop (by rw [hd]; simp))
              obtain ⟨he, he2⟩ := drop_cons hd
              rw [bs_length] at he2
              have hlen3 : k + 6 + 1 < s.size := hlt2
              by_cases hd117 : d = 117
              · subst hd117
                have hF := fun W => runit_any s (k + 8) W (by omega) (by omega)
                rw [show (bs s).drop (k + 8) = u from he] at hF
                simp only [Int.natCast_add, Int.cast_ofNat_Int] at hF
                clear hq hr4 he hd
                obtain ⟨x, hx⟩ : ∃ x, x = unitQ u := ⟨_, rfl⟩
                rw [← hx] at hF
                obtain ⟨m, x2⟩ := x
                simp only at hF
                by_cases hm : x2 = 0
                · subst hm
                  have hm0 : (unitQ u).2 = 0 := by rw [← hx]
                  obtain ⟨hv3, hv4⟩ := unitQ_val hm0
                  have hmm : m = (unitQ u).1 := by rw [← hx]
                  rw [← hmm] at hv4
                  by_cases hlow : m < 56320 ∨ 57343 < m
                  · have HC : Hid (codedQ r = errR 3) := Lib.hid (by rw [HC0.out, hrt]; simp only [lowQ]; rw [if_neg (by simp), if_neg (by simp), if_neg (by simp [hm0]), if_pos (by rw [← hmm]; exact hlow)])
                    have hlow2 : (decide ((m : Int) < 56320) = true) ∨ (decide ((m : Int) < 56320) = false ∧ decide ((57343 : Int) < (m : Int)) = true) := by
                      rcases hlow with hlow | hlow
                      · exact .inl (by simp; omega)
                      · exact .inr ⟨by simp; omega, by simp; omega⟩
                    have HLOW := Lib.hid hlow2
                    clear hrt hm0 hmm hlow hlow2 hv4 hv3 hx
                    go_enter Tryd.func31, Tryd.ntmps31
                    go_wp2_with fail
                    refine (h4 _).mono ?_
                    rintro e w1 ⟨rfl, rfl⟩
                    go_wp2_with fail
                    clear b1 b2 b3 h4
                    refine wp_loop_rounds 3 ?_
                    rw [rounds_succ]
                    go_wp2_with fail
                    obtain ⟨g1, g2, g3⟩ := lay6 hlen2 hs
                    go_region
                    clear g1 g2 g3
                    go_wp2_with fail
                    rw [rounds_succ]
                    go_wp2_with fail
                    obtain ⟨g1, g2, g3⟩ := lay7 hlen3 hs
                    go_region
                    clear g1 g2 g3
                    go_wp2_with fail
                    rw [rounds_succ]
                    go_wp2_with fail
                    refine (hF _).mono ?_
                    rintro e w2 ⟨rfl, rfl⟩
                    clear hF
                    rcases HLOW.out with hlow | ⟨hlow, hlow2⟩
                    all_goals
                      go_wp2
                      refine bodyPost_ret (v := partV (errR 3)) (by simp [results, Tryd.results31, go_sem, partV, errR, un, strOf]) rfl ⟨by rw [HC.out], ?_⟩
                      (repeat' (first | (with_reducible refine Below.setCell ?_ ?_ _) | (with_reducible refine Below.alloc ?_ ?_ _) | (with_reducible refine Below.drew ?_) | (with_reducible assumption) | (with_reducible exact Below.refl _ _) | (simp only [World.size_alloc, World.size_setCell, World.size_drew]; done) | (simp only [World.size_alloc, World.size_setCell, World.size_drew]; omega) | omega))
                  · obtain ⟨x, hx9⟩ : ∃ x, x = 65536 + (n - 55296) * 1024 + (m - 56320) := ⟨_, rfl⟩
                    have HC : Hid (codedQ r = (putN x, 12, 0)) := Lib.hid (by rw [HC0.out, hrt]; simp only [lowQ]; rw [if_neg (by simp), if_neg (by simp), if_neg (by simp [hm0]), if_neg (by rw [← hmm]; exact hlow), hx9, hmm])
                    have hn3 := HN3.out
                    have hsc : isScI (x : Int) = true := by rw [isScI_nat, isSc_iff]; omega
                    have hP := fun W => rPut_any (x : Int) W
                    unfold rputL at hP
                    rw [if_pos hsc, Int.toNat_natCast] at hP
                    obtain ⟨S, hS⟩ : ∃ S, S = strOf (putU x) := ⟨_, rfl⟩
                    rw [← hS] at hP
                    have HS := Lib.hid hS
                    have E1 := Lib.hid (And.intro (show (0 : Int) ≤ (n : Int) - 55296 ∧ (n : Int) - 55296 ≤ 1023 by omega) (And.intro (show (0 : Int) ≤ (m : Int) ∧ (m : Int) ≤ 65535 by omega) (show (65536 : Int) + ((n : Int) - 55296) * 1024 + (m : Int) - 56320 = (x : Int) by omega)))
                    have HD := Lib.hid (And.intro (show decide ((m : Int) < 56320) = false by simp; omega) (show decide ((57343 : Int) < (m : Int)) = false by simp; omega))
                    clear hrt hm0 hmm hlow hv4 hv3 hx hx9 hS hsc hn3
                    go_enter Tryd.func31, Tryd.ntmps31
                    go_wp2_with fail
                    refine (h4 _).mono ?_
                    rintro e w1 ⟨rfl, rfl⟩
                    go_wp2_with fail
                    clear b1 b2 b3 h4
                    refine wp_loop_rounds 3 ?_
                    rw [rounds_succ]
                    go_wp2_with fail
                    obtain ⟨g1, g2, g3⟩ := lay6 hlen2 hs
                    go_region
                    clear g1 g2 g3
                    go_wp2_with fail
                    rw [rounds_succ]
                    go_wp2_with fail
                    obtain ⟨g1, g2, g3⟩ := lay7 hlen3 hs
                    go_region
                    clear g1 g2 g3
                    go_wp2_with fail
                    rw [rounds_succ]
                    go_wp2_with fail
                    refine (hF _).mono ?_
                    rintro e w2 ⟨rfl, rfl⟩
                    clear hF
                    obtain ⟨d1, d2⟩ := HD.out
                    obtain ⟨e1, e2, hxi⟩ := E1.out
                    go_wp2_with fail
                    refine (hP _).mono ?_
                    rintro e w2 ⟨rfl, hb2⟩
                    clear d1 d2 e1 e2 hxi hP
                    have hz2 := hb2.size
                    simp only [World.size_alloc, World.size_drew] at hz2
                    have hx2 := ((((Cells.new w #[.string ⟨#[]⟩, .int .i64 0, .int .i64 0] 27).alloc (.cells #[.int .u8 92, .int .u8 117] 5)).drew.alloc (.cells #[.int .u8 92, .int .u8 117] 5)).drew).below hb2 (by simp; omega)
                    have hx2c0 := hx2.cell 0 _ rfl
                    have hx2f0 := hx2.frozen 0
                    have hx2c1 := hx2.cell 1 _ rfl
                    have hx2f1 := hx2.frozen 1
                    have hx2c2 := hx2.cell 2 _ rfl
                    have hx2f2 := hx2.frozen 2
                    have hb3 : Below w.heap.size w w2 := ((((((Below.refl _ w).alloc (Nat.le_refl _) _).alloc (by simp) _).drew).alloc (by simp; omega) _).drew).trans (hb2.mono (by simp; omega))
                    go_wp2
                    refine bodyPost_ret (v := .agg #[.string S, .int .i64 12, .int .i64 0]) (by simp [results, Tryd.results31, go_sem, *]) rfl ⟨by rw [HC.out, HS.out]; rfl, ?_⟩
                    (repeat' (first | (with_reducible refine Below.setCell ?_ ?_ _) | (with_reducible refine Below.alloc ?_ ?_ _) | (with_reducible refine Below.drew ?_) | (with_reducible assumption) | (with_reducible exact Below.refl _ _) | (simp only [World.size_alloc, World.size_setCell, World.size_drew]; done) | (simp only [World.size_alloc, World.size_setCell, World.size_drew]; omega) | omega))
                · have hm0 : (unitQ u).2 ≠ 0 := by rw [← hx]; exact hm
                  have HC : Hid (codedQ r = errR x2) := Lib.hid (by rw [HC0.out, hrt]; simp only [lowQ]; rw [if_neg (by simp), if_neg (by simp), if_pos hm0, ← hx])
                  have hbe : ((x2 : Int) != 0) = true := by rw [bne_iff_ne]; omega
                  clear hrt hm0 hm hx
                  go_enter Tryd.func31, Tryd.ntmps31
                  go_wp2_with fail
                  refine (h4 _).mono ?_
                  rintro e w1 ⟨rfl, rfl⟩
                  go_wp2_with fail
                  clear b1 b2 b3 h4
                  refine wp_loop_rounds 3 ?_
                  rw [rounds_succ]
                  go_wp2_with fail
                  obtain ⟨g1, g2, g3⟩ := lay6 hlen2 hs
                  go_region
                  clear g1 g2 g3
                  go_wp2_with fail
                  rw [rounds_succ]
                  go_wp2_with fail
                  obtain ⟨g1, g2, g3⟩ := lay7 hlen3 hs
                  go_region
                  clear g1 g2 g3
                  go_wp2_with fail
                  rw [rounds_succ]
                  go_wp2_with fail
                  refine (hF _).mono ?_
                  rintro e w2 ⟨rfl, rfl⟩
                  go_wp2
                  refine bodyPost_ret (v := partV (errR x2)) (by simp [results, Tryd.results31, go_sem, partV, errR, un, strOf]) rfl ⟨by rw [HC.out], ?_⟩
                  (repeat' (first | (with_reducible refine Below.setCell ?_ ?_ _) | (with_reducible refine Below.alloc ?_ ?_ _) | (with_reducible refine Below.drew ?_) | (with_reducible assumption) | (with_reducible exact Below.refl _ _) | (simp only [World.size_alloc, World.size_setCell, World.size_drew]; done) | (simp only [World.size_alloc, World.size_setCell, World.size_drew]; omega) | omega))
              · have HC : Hid (codedQ r = errR 3) := Lib.hid (by rw [HC0.out, hrt]; simp only [lowQ]; rw [if_neg (by simp), if_pos (by simpa using hd117)])
                have hbd : ((d : Int) != 117) = true := by rw [bne_iff_ne]; omega
                clear hq hr4 hrt hd he hd117
                go_enter Tryd.func31, Tryd.ntmps31
                go_wp2_with fail
                refine (h4 _).mono ?_
                rintro e w1 ⟨rfl, rfl⟩
                go_wp2_with fail
                clear b1 b2 b3 h4
                refine wp_loop_rounds 2 ?_
                rw [rounds_succ]
                go_wp2_with fail
                obtain ⟨g1, g2, g3⟩ := lay6 hlen2 hs
                go_region
                clear g1 g2 g3
                go_wp2_with fail
                rw [rounds_succ]
                go_wp2_with fail
                obtain ⟨g1, g2, g3⟩ := lay7 hlen3 hs
                go_region
                clear g1 g2 g3
                go_wp2
                refine bodyPost_ret (v := partV (errR 3)) (by simp [results, Tryd.results31, go_sem, partV, errR, un, strOf]) rfl ⟨by rw [HC.out], ?_⟩
                (repeat' (first | (with_reducible refine Below.setCell ?_ ?_ _) | (with_reducible refine Below.alloc ?_ ?_ _) | (with_reducible refine Below.drew ?_) | (with_reducible assumption) | (with_reducible exact Below.refl _ _) | (simp only [World.size_alloc, World.size_setCell, World.size_drew]; done) | (simp only [World.size_alloc, World.size_setCell, World.size_drew]; omega) | omega))
          · have HC : Hid (codedQ r = errR 3) := Lib.hid (by rw [HC0.out, hr4, hq]; simp only [lowQ]; rw [if_pos (by simpa using hc92)])
            have hbc : ((c : Int) != 92) = true := by rw [bne_iff_ne]; omega
            clear hq hr4 hc92
            go_enter Tryd.func31, Tryd.ntmps31
            go_wp2_with fail
            refine (h4 _).mono ?_
            rintro e w1 ⟨rfl, rfl⟩
            go_wp2_with fail
            clear b1 b2 b3 h4
            refine wp_loop_rounds 1 ?_
            rw [rounds_succ]
            go_wp2_with fail
            obtain ⟨g1, g2, g3⟩ := lay6 hlen2 hs
            go_region
            clear g1 g2 g3
            go_wp2
            refine bodyPost_ret (v := partV (errR 3)) (by simp [results, Tryd.results31, go_sem, partV, errR, un, strOf]) rfl ⟨by rw [HC.out], ?_⟩
            (repeat' (first | (with_reducible refine Below.setCell ?_ ?_ _) | (with_reducible refine Below.alloc ?_ ?_ _) | (with_reducible refine Below.drew ?_) | (with_reducible assumption) | (with_reducible exact Below.refl _ _) | (simp only [World.size_alloc, World.size_setCell, World.size_drew]; done) | (simp only [World.size_alloc, World.size_setCell, World.size_drew]; omega) | omega))
  · have HC : Hid (codedQ r = errR (unitQ r).2) := Lib.hid (by unfold codedQ; rw [if_pos (by simpa using hu)])
    obtain ⟨x, hx⟩ : ∃ x, x = unitQ r := ⟨_, rfl⟩
    rw [← hx] at h4 hu HC
    obtain ⟨x1, x2⟩ := x
    simp only at h4 hu HC
    have hbe : ((x2 : Int) != 0) = true := by rw [bne_iff_ne]; omega
    have HR := Lib.hid hr
    clear hu hx hr
    go_enter Tryd.func31, Tryd.ntmps31
    go_wp2_with fail
    refine (h4 _).mono ?_
    rintro e w1 ⟨rfl, rfl⟩
    go_wp2
    refine bodyPost_ret (v := partV (errR x2)) (by simp [results, Tryd.results31, go_sem, partV, errR, un, strOf]) rfl ⟨by rw [HC.out], ?_⟩
    (repeat' (first | (with_reducible refine Below.setCell ?_ ?_ _) | (with_reducible refine Below.alloc ?_ ?_ _) | (with_reducible refine Below.drew ?_) | (with_reducible assumption) | (with_reducible exact Below.refl _ _) | (simp only [World.size_alloc, World.size_setCell, World.size_drew]; done) | (simp only [World.size_alloc, World.size_setCell, World.size_drew]; omega) | omega))
end Go.Proofs.YtgkgdmpbcneoiaaDoor
