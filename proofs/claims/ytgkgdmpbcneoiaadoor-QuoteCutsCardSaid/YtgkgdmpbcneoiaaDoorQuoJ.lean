/- The walks of the reference's parts (layer 7). -/
import Derived.Test.YtgkgdmpbcneoiaaDoorQuoI
import Derived.Test.YtgkgdmpbcneoiaaDoorUtfH
import Derived.Test.YtgkgdmpbcneoiaaDoorBox
namespace Go.Proofs.YtgkgdmpbcneoiaaDoor
open Go.RowKit Go.Tab

theorem bs_un {l : List Nat} (h : Byt l) : bs (strOf (un l)) = l := by
  rw [bs_strOf]
  unfold un
  rw [List.map_map]
  conv => rhs; rw [← List.map_id l]
  refine List.map_congr_left fun x hx => ?_
  have := h x hx
  simp only [Function.comp, UInt8.toNat_ofNat', id]
  omega
theorem ext_str (s : ByteArray) (a b : Nat) : s.extract a b = strOf (un (((bs s).drop a).take (b - a))) := by
  refine bs_inj ?_
  rw [bs_un (fun x hx => bs_lt x (List.mem_of_mem_drop (List.mem_of_mem_take hx)))]
  rw [bs_extract, List.drop_take]


set_option maxHeartbeats 4000000 in
set_option maxRecDepth 100000 in
theorem rpart_any (s : ByteArray) (k : Nat) (w : World) (hk : k ≤ s.size) (hs : s.size ≤ 100000) :
    Calls Tryd.prog 20 #[.string s, .int .i64 (k : Int)] w fun e w' => e = .returned (partV (partQ ((bs s).drop k))) ∧ Below w.heap.size w w' := by
  cases hq : (bs s).drop k with
  | nil =>
    have HC : Hid (partQ [] = errR 2) := Lib.hid rfl
    have hz := drop_nil_iff hk hq
    have hz' : s.size ≤ k := by omega
    clear hq hz
    go_enter Tryd.func20, Tryd.ntmps20
    go_wp2
    refine bodyPost_ret (v := partV (errR 2)) (by simp [results, Tryd.results20, go_sem, partV, errR, un, strOf]) rfl ⟨by rw [HC.out], ?_⟩
    (repeat' (first | (with_reducible refine Below.setCell ?_ ?_ _) | (with_reducible refine Below.alloc ?_ ?_ _) | (with_reducible refine Below.drew ?_) | (with_reducible assumption) | (with_reducible exact Below.refl _ _) | (simp only [World.size_alloc, World.size_setCell, World.size_drew]; done) | (simp only [World.size_alloc, World.size_setCell, World.size_drew]; omega) | omega))
  | cons c r =>
    obtain ⟨hlt, hbv⟩ := bs_fact hq
    have hlt' : k < s.size := hlt
    have hc : c < 256 := bs_lt c (List.mem_of_mem_drop (by rw [hq]; simp))
    by_cases h32 : c < 32
    · have HC : Hid (partQ (c :: r) = errR 3) := Lib.hid (by simp [partQ, h32])
      clear hq
      go_enter Tryd.func20, Tryd.ntmps20
      go_wp2
      refine bodyPost_ret (v := partV (errR 3)) (by simp [results, Tryd.results20, go_sem, partV, errR, un, strOf]) rfl ⟨by rw [HC.out], ?_⟩
      (repeat' (first | (with_reducible refine Below.setCell ?_ ?_ _) | (with_reducible refine Below.alloc ?_ ?_ _) | (with_reducible refine Below.drew ?_) | (with_reducible assumption) | (with_reducible exact Below.refl _ _) | (simp only [World.size_alloc, World.size_setCell, World.size_drew]; done) | (simp only [World.size_alloc, World.size_setCell, World.size_drew]; omega) | omega))
    have h32' : 32 ≤ c := by omega
    by_cases h92 : c = 92
    · subst h92
      obtain ⟨hd1, hd2⟩ := drop_cons hq
      rw [bs_length] at hd2
      clear h32 h32'
      cases ht : r with
      | nil =>
        have HC : Hid (partQ [92] = errR 2) := Lib.hid rfl
        have hz := drop_nil_iff (show k + 1 ≤ s.size by omega) (by rw [← ht]; exact hd1)
        have hz' : s.size ≤ k + 1 := by omega
        clear hq hd1 hz ht
        go_enter Tryd.func20, Tryd.ntmps20
        go_wp2
        refine bodyPost_ret (v := partV (errR 2)) (by simp [results, Tryd.results20, go_sem, partV, errR, un, strOf]) rfl ⟨by rw [HC.out], ?_⟩
        (repeat' (first | (with_reducible refine Below.setCell ?_ ?_ _) | (with_reducible refine Below.alloc ?_ ?_ _) | (with_reducible refine Below.drew ?_) | (with_reducible assumption) | (with_reducible exact Below.refl _ _) | (simp only [World.size_alloc, World.size_setCell, World.size_drew]; done) | (simp only [World.size_alloc, World.size_setCell, World.size_drew]; omega) | omega))
      | cons d u =>
        subst ht
        obtain ⟨hlt2, hbv2⟩ := bs_fact hd1
        have hlt2' : k + 1 < s.size := hlt2
        have hdl : d < 256 := bs_lt d (List.mem_of_mem_drop (by rw [hd1]; simp))
        have hcd := fun W => rcoded_any s k W (by omega) hs
        rw [show (bs s).drop (k + 2) = u from (drop_cons hd1).1] at hcd
        have hbd : (0 : Int) ≤ (k : Int) + 1 ∧ (k : Int) + 1 < (s.size : Int) := by omega
        obtain ⟨L, hL⟩ : ∃ L, L = 92 :: d :: u := ⟨_, rfl⟩
        rw [← hL]
        have hx : s.extract (k + 1) (k + 2) = strOf (un [d]) := by rw [ext_str, show k + 2 - (k + 1) = 1 by omega, hd1]; rfl
        have HX := Lib.hid hx
        clear hq hd1 hx
        by_cases hc34 : d = 34
        · subst hc34
          have HC : Hid (partQ L = ([34], 2, 0)) := Lib.hid (by rw [hL]; rfl)
          clear hL
          go_enter Tryd.func20, Tryd.ntmps20
          go_wp2
          refine bodyPost_ret (v := .agg #[.string (s.extract (k + 1) (k + 2)), .int .i64 2, .int .i64 0]) (by simp [results, Tryd.results20, go_sem]) rfl ⟨by rw [HC.out, HX.out]; rfl, ?_⟩
          (repeat' (first | (with_reducible refine Below.setCell ?_ ?_ _) | (with_reducible refine Below.alloc ?_ ?_ _) | (with_reducible refine Below.drew ?_) | (with_reducible assumption) | (with_reducible exact Below.refl _ _) | (simp only [World.size_alloc, World.size_setCell, World.size_drew]; done) | (simp only [World.size_alloc, World.size_setCell, World.size_drew]; omega) | omega))
        by_cases hc92 : d = 92
        · subst hc92
          have HC : Hid (partQ L = ([92], 2, 0)) := Lib.hid (by rw [hL]; rfl)
          clear hL
          go_enter Tryd.func20, Tryd.ntmps20
          go_wp2
          refine bodyPost_ret (v := .agg #[.string (s.extract (k + 1) (k + 2)), .int .i64 2, .int .i64 0]) (by simp [results, Tryd.results20, go_sem]) rfl ⟨by rw [HC.out, HX.out]; rfl, ?_⟩
          (repeat' (first | (with_reducible refine Below.setCell ?_ ?_ _) | (with_reducible refine Below.alloc ?_ ?_ _) | (with_reducible refine Below.drew ?_) | (with_reducible assumption) | (with_reducible exact Below.refl _ _) | (simp only [World.size_alloc, World.size_setCell, World.size_drew]; done) | (simp only [World.size_alloc, World.size_setCell, World.size_drew]; omega) | omega))
        by_cases hc47 : d = 47
        · subst hc47
          have HC : Hid (partQ L = ([47], 2, 0)) := Lib.hid (by rw [hL]; rfl)
          clear hL
          go_enter Tryd.func20, Tryd.ntmps20
          go_wp2
          refine bodyPost_ret (v := .agg #[.string (s.extract (k + 1) (k + 2)), .int .i64 2, .int .i64 0]) (by simp [results, Tryd.results20, go_sem]) rfl ⟨by rw [HC.out, HX.out]; rfl, ?_⟩
          (repeat' (first | (with_reducible refine Below.setCell ?_ ?_ _) | (with_reducible refine Below.alloc ?_ ?_ _) | (with_reducible refine Below.drew ?_) | (with_reducible assumption) | (with_reducible exact Below.refl _ _) | (simp only [World.size_alloc, World.size_setCell, World.size_drew]; done) | (simp only [World.size_alloc, World.size_setCell, World.size_drew]; omega) | omega))
        by_cases hc98 : d = 98
        · subst hc98
          have HC : Hid (partQ L = ([8], 2, 0)) := Lib.hid (by rw [hL]; rfl)
          clear hL
          go_enter Tryd.func20, Tryd.ntmps20
          go_wp2
          refine bodyPost_ret (v := partV ([8], 2, 0)) (by simp [results, Tryd.results20, go_sem, partV, errR, un, strOf]) rfl ⟨by rw [HC.out], ?_⟩
          (repeat' (first | (with_reducible refine Below.setCell ?_ ?_ _) | (with_reducible refine Below.alloc ?_ ?_ _) | (with_reducible refine Below.drew ?_) | (with_reducible assumption) | (with_reducible exact Below.refl _ _) | (simp only [World.size_alloc, World.size_setCell, World.size_drew]; done) | (simp only [World.size_alloc, World.size_setCell, World.size_drew]; omega) | omega))
        by_cases hc102 : d = 102
        · subst hc102
          have HC : Hid (partQ L = ([12], 2, 0)) := Lib.hid (by rw [hL]; rfl)
          clear hL
          go_enter Tryd.func20, Tryd.ntmps20
          go_wp2
          refine bodyPost_ret (v := partV ([12], 2, 0)) (by simp [results, Tryd.results20, go_sem, partV, errR, un, strOf]) rfl ⟨by rw [HC.out], ?_⟩
          (repeat' (first | (with_reducible refine Below.setCell ?_ ?_ _) | (with_reducible refine Below.alloc ?_ ?_ _) | (with_reducible refine Below.drew ?_) | (with_reducible assumption) | (with_reducible exact Below.refl _ _) | (simp only [World.size_alloc, World.size_setCell, World.size_drew]; done) | (simp only [World.size_alloc, World.size_setCell, World.size_drew]; omega) | omega))
        by_cases hc110 : d = 110
        · subst hc110
          have HC : Hid (partQ L = ([10], 2, 0)) := Lib.hid (by rw [hL]; rfl)
          clear hL
          go_enter Tryd.func20, Tryd.ntmps20
          go_wp2
          refine bodyPost_ret (v := partV ([10], 2, 0)) (by simp [results, Tryd.results20, go_sem, partV, errR, un, strOf]) rfl ⟨by rw [HC.out], ?_⟩
          (repeat' (first | (with_reducible refine Below.setCell ?_ ?_ _) | (with_reducible refine Below.alloc ?_ ?_ _) | (with_reducible refine Below.drew ?_) | (with_reducible assumption) | (with_reducible exact Below.refl _ _) | (simp only [World.size_alloc, World.size_setCell, World.size_drew]; done) | (simp only [World.size_alloc, World.size_setCell, World.size_drew]; omega) | omega))
        by_cases hc114 : d = 114
        · subst hc114
          have HC : Hid (partQ L = ([13], 2, 0)) := Lib.hid (by rw [hL]; rfl)
          clear hL
          go_enter Tryd.func20, Tryd.ntmps20
          go_wp2
          refine bodyPost_ret (v := partV ([13], 2, 0)) (by simp [results, Tryd.results20, go_sem, partV, errR, un, strOf]) rfl ⟨by rw [HC.out], ?_⟩
          (repeat' (first | (with_reducible refine Below.setCell ?_ ?_ _) | (with_reducible refine Below.alloc ?_ ?_ _) | (with_reducible refine Below.drew ?_) | (with_reducible assumption) | (with_reducible exact Below.refl _ _) | (simp only [World.size_alloc, World.size_setCell, World.size_drew]; done) | (simp only [World.size_alloc, World.size_setCell, World.size_drew]; omega) | omega))
        by_cases hc116 : d = 116
        · subst hc116
          have HC : Hid (partQ L = ([9], 2, 0)) := Lib.hid (by rw [hL]; rfl)
          clear hL
          go_enter Tryd.func20, Tryd.ntmps20
          go_wp2
          refine bodyPost_ret (v := partV ([9], 2, 0)) (by simp [results, Tryd.results20, go_sem, partV, errR, un, strOf]) rfl ⟨by rw [HC.out], ?_⟩
          (repeat' (first | (with_reducible refine Below.setCell ?_ ?_ _) | (with_reducible refine Below.alloc ?_ ?_ _) | (with_reducible refine Below.drew ?_) | (with_reducible assumption) | (with_reducible exact Below.refl _ _) | (simp only [World.size_alloc, World.size_setCell, World.size_drew]; done) | (simp only [World.size_alloc, World.size_setCell, World.size_drew]; omega) | omega))
        have hno : escB d = none := by
          unfold escB
          rw [if_neg (by omega), if_neg hc98, if_neg hc102, if_neg hc110, if_neg hc114, if_neg hc116]
        by_cases hc117 : d = 117
        · subst hc117
          have HC : Hid (partQ L = codedQ u) := Lib.hid (by rw [hL]; rfl)
          unfold partV at hcd
          obtain ⟨q, hq⟩ : ∃ q, q = codedQ u := ⟨_, rfl⟩
          rw [← hq] at hcd HC
          obtain ⟨o, z, e⟩ := q
          simp only at hcd
          obtain ⟨S, hS⟩ : ∃ S, S = strOf (un o) := ⟨_, rfl⟩
          rw [← hS] at hcd
          have HS := Lib.hid hS
          clear hL hno hS hq hc34 hc92 hc47 hc98 hc102 hc110 hc114 hc116
          go_enter Tryd.func20, Tryd.ntmps20
          go_wp2_with fail
          refine (hcd _).mono ?_
          rintro e2 w2 ⟨rfl, hb2⟩
          have hz2 := hb2.size
          simp only [World.size_alloc] at hz2
          have hx2 := (Cells.new w #[.string ⟨#[]⟩, .int .i64 0, .int .i64 0] 27).below hb2 (by simp)
          have hx2c0 := hx2.cell 0 _ rfl
          have hx2f0 := hx2.frozen 0
          have hx2c1 := hx2.cell 1 _ rfl
          have hx2f1 := hx2.frozen 1
          have hx2c2 := hx2.cell 2 _ rfl
          have hx2f2 := hx2.frozen 2
          have hb3 : Below w.heap.size w w2 := ((Below.refl _ w).alloc (Nat.le_refl _) _).trans (hb2.mono (by simp))
          go_wp2
          refine bodyPost_ret (v := .agg #[.string S, .int .i64 z, .int .i64 e]) (by simp [results, Tryd.results20, go_sem, *]) rfl ⟨by rw [HC.out, HS.out]; rfl, ?_⟩
          (repeat' (first | (with_reducible refine Below.setCell ?_ ?_ _) | (with_reducible refine Below.alloc ?_ ?_ _) | (with_reducible refine Below.drew ?_) | (with_reducible assumption) | (with_reducible exact Below.refl _ _) | (simp only [World.size_alloc, World.size_setCell, World.size_drew]; done) | (simp only [World.size_alloc, World.size_setCell, World.size_drew]; omega) | omega))
        · have HC : Hid (partQ L = errR 3) := Lib.hid (by rw [hL]; simp only [partQ, escQ, hno, if_neg hc117]; rfl)
          have b1 : ((d : Int) == 34) = false := by rw [beq_eq_false_iff_ne]; omega
          have b2 : ((d : Int) == 92) = false := by rw [beq_eq_false_iff_ne]; omega
          have b3 : ((d : Int) == 47) = false := by rw [beq_eq_false_iff_ne]; omega
          have b4 : ((d : Int) == 98) = false := by rw [beq_eq_false_iff_ne]; omega
          have b5 : ((d : Int) == 102) = false := by rw [beq_eq_false_iff_ne]; omega
          have b6 : ((d : Int) == 110) = false := by rw [beq_eq_false_iff_ne]; omega
          have b7 : ((d : Int) == 114) = false := by rw [beq_eq_false_iff_ne]; omega
          have b8 : ((d : Int) == 116) = false := by rw [beq_eq_false_iff_ne]; omega
          have b9 : ((d : Int) == 117) = false := by rw [beq_eq_false_iff_ne]; omega
          clear hL hno hc34 hc92 hc47 hc98 hc102 hc110 hc114 hc116 hc117
          go_enter Tryd.func20, Tryd.ntmps20
          go_wp2
          refine bodyPost_ret (v := partV (errR 3)) (by simp [results, Tryd.results20, go_sem, partV, errR, un, strOf]) rfl ⟨by rw [HC.out], ?_⟩
          (repeat' (first | (with_reducible refine Below.setCell ?_ ?_ _) | (with_reducible refine Below.alloc ?_ ?_ _) | (with_reducible refine Below.drew ?_) | (with_reducible assumption) | (with_reducible exact Below.refl _ _) | (simp only [World.size_alloc, World.size_setCell, World.size_drew]; done) | (simp only [World.size_alloc, World.size_setCell, World.size_drew]; omega) | omega))
    · have hO := fun W => One_any s k W (by omega) hk
      have hle := oneN_le ((bs s).drop k) (fun x hx => bs_lt x (List.mem_of_mem_drop hx))
      rw [List.length_drop, bs_length] at hle
      have hb92 : ((c : Int) != 92) = true := by rw [bne_iff_ne]; omega
      have hPQ : partQ (c :: r) = if (oneN (c :: r)).2 = 0 then errR 7 else ((c :: r).take (oneN (c :: r)).2, (oneN (c :: r)).2, 0) := by
        simp only [partQ]
        rw [if_neg h32, if_neg h92]
      rw [← hq] at hPQ ⊢
      obtain ⟨L, hL⟩ : ∃ L, L = (bs s).drop k := ⟨_, rfl⟩
      rw [← hL] at hPQ hO hle ⊢
      obtain ⟨o, ho⟩ : ∃ o, o = oneN L := ⟨_, rfl⟩
      rw [← ho] at hPQ hO hle
      obtain ⟨o1, n⟩ := o
      simp only at hPQ hO hle
      have hx : s.extract k (k + n) = strOf (un (L.take n)) := by rw [ext_str, show k + n - k = n by omega, hL]
      have HX := Lib.hid hx
      by_cases hn : n = 0
      · subst hn
        have HC : Hid (partQ L = errR 7) := Lib.hid (by rw [hPQ, if_pos rfl])
        clear hq hPQ hL ho hx h92 h32
        go_enter Tryd.func20, Tryd.ntmps20
        go_wp2_with fail
        refine (hO _).mono ?_
        rintro e2 w2 ⟨rfl, hb2⟩
        have hz2 := hb2.size
        simp only [World.size_alloc] at hz2
        have hx2 := (Cells.new w #[.string ⟨#[]⟩, .int .i64 0, .int .i64 0] 27).below hb2 (by simp)
        have hx2c0 := hx2.cell 0 _ rfl
        have hx2f0 := hx2.frozen 0
        have hx2c1 := hx2.cell 1 _ rfl
        have hx2f1 := hx2.frozen 1
        have hx2c2 := hx2.cell 2 _ rfl
        have hx2f2 := hx2.frozen 2
        have hb3 : Below w.heap.size w w2 := ((Below.refl _ w).alloc (Nat.le_refl _) _).trans (hb2.mono (by simp))
        go_wp2
        refine bodyPost_ret (v := partV (errR 7)) (by simp [results, Tryd.results20, go_sem, partV, errR, un, strOf, *]) rfl ⟨by rw [HC.out], ?_⟩
        (repeat' (first | (with_reducible refine Below.setCell ?_ ?_ _) | (with_reducible refine Below.alloc ?_ ?_ _) | (with_reducible refine Below.drew ?_) | (with_reducible assumption) | (with_reducible exact Below.refl _ _) | (simp only [World.size_alloc, World.size_setCell, World.size_drew]; done) | (simp only [World.size_alloc, World.size_setCell, World.size_drew]; omega) | omega))
      · have HC : Hid (partQ L = (L.take n, n, 0)) := Lib.hid (by rw [hPQ, if_neg hn])
        have hbn : ((n : Int) == 0) = false := by rw [beq_eq_false_iff_ne]; omega
        clear hq hPQ hL ho hx h92 h32 hn
        go_enter Tryd.func20, Tryd.ntmps20
        go_wp2_with fail
        refine (hO _).mono ?_
        rintro e2 w2 ⟨rfl, hb2⟩
        have hz2 := hb2.size
        simp only [World.size_alloc] at hz2
        have hx2 := (Cells.new w #[.string ⟨#[]⟩, .int .i64 0, .int .i64 0] 27).below hb2 (by simp)
        have hx2c0 := hx2.cell 0 _ rfl
        have hx2f0 := hx2.frozen 0
        have hx2c1 := hx2.cell 1 _ rfl
        have hx2f1 := hx2.frozen 1
        have hx2c2 := hx2.cell 2 _ rfl
        have hx2f2 := hx2.frozen 2
        have hb3 : Below w.heap.size w w2 := ((Below.refl _ w).alloc (Nat.le_refl _) _).trans (hb2.mono (by simp))
        go_wp2
        refine bodyPost_ret (v := .agg #[.string (s.extract k (k + n)), .int .i64 n, .int .i64 0]) (by simp [results, Tryd.results20, go_sem, *]) rfl ⟨by rw [HC.out, HX.out]; rfl, ?_⟩
        (repeat' (first | (with_reducible refine Below.setCell ?_ ?_ _) | (with_reducible refine Below.alloc ?_ ?_ _) | (with_reducible refine Below.drew ?_) | (with_reducible assumption) | (with_reducible exact Below.refl _ _) | (simp only [World.size_alloc, World.size_setCell, World.size_drew]; done) | (simp only [World.size_alloc, World.size_setCell, World.size_drew]; omega) | omega))
end Go.Proofs.YtgkgdmpbcneoiaaDoor
