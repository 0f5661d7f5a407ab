/- The walk of the reference's Scan (layer 7). -/
import Derived.Test.YtgkgdmpbcneoiaaDoorQuoJ
namespace Go.Proofs.YtgkgdmpbcneoiaaDoor
open Go.RowKit Go.Tab

theorem strOf_append (a b : List UInt8) : strOf a ++ strOf b = strOf (a ++ b) := by
  refine bs_inj ?_
  simp [bs, strOf]
theorem un_append' (a b : List Nat) : strOf (un a) ++ strOf (un b) = strOf (un (a ++ b)) := by rw [strOf_append]; simp [un]

theorem un_length' (l : List Nat) : (un l).length = l.length := by simp [un]


set_option maxHeartbeats 4000000 in
set_option maxRecDepth 100000 in
theorem rScan_any (s : ByteArray) (w : World) (hs : s.size ≤ 100000) :
    Calls Tryd.prog 10 #[.string s] w fun e w' => e = .returned (partV (scanQ (bs s))) ∧ Below w.heap.size w w' := by
  cases hq : bs s with
  | nil =>
    have HC : Hid (scanQ [] = errR 2) := Lib.hid rfl
    have hz : s.size = 0 := by rw [← bs_length, hq]; rfl
    have hb : ((s.size : Int) == 0) = true := by rw [beq_iff_eq]; omega
    clear hq hz
    go_enter Tryd.func10, Tryd.ntmps10
    go_wp2
    refine bodyPost_ret (v := partV (errR 2)) (by simp [results, Tryd.results10, go_sem, partV, errR, un, strOf, *]) rfl ⟨by rw [HC.out], ?_⟩
    (repeat' (first | (with_reducible refine Below.setCell ?_ ?_ _) | (with_reducible refine Below.alloc ?_ ?_ _) | (with_reducible refine Below.drew ?_) | (with_reducible assumption) | (with_reducible exact Below.refl _ _) | (simp only [World.size_alloc, World.size_setCell, World.size_drew]; done) | (simp only [World.size_alloc, World.size_setCell, World.size_drew]; omega) | omega))
  | cons c r =>
    obtain ⟨hlt, hbv⟩ := bs_fact (s := s) (k := 0) (by rw [List.drop_zero]; exact hq)
    have hlt' : 0 < s.size := hlt
    have hc : c < 256 := bs_lt c (by rw [hq]; simp)
    have hb0 : ((s.size : Int) == 0) = false := by rw [beq_eq_false_iff_ne]; omega
    by_cases hc34 : c = 34
    · subst hc34
      have HQ : Hid (scanQ (bs s) = joinR [] 1 (bodyQ ((bs s).drop 1))) := Lib.hid (by rw [hq]; rfl)
      rw [← hq]
      have hx0 := Cells.new w #[.string ⟨#[]⟩, .int .i64 0, .int .i64 0] 27
      have hbw : Below w.heap.size w (w.alloc (.cells #[.string ⟨#[]⟩, .int .i64 0, .int .i64 0] 27)) := (Below.refl _ w).alloc (Nat.le_refl _) _
      clear hq
      go_enter Tryd.func10, Tryd.ntmps10
      go_wp2_with fail
      go_loopw [3, 4] (fun sv at' wr => ∃ (k : Nat) (pre : List Nat) (S : ByteArray), sv = .string S ∧ Hid (S = strOf (un pre)) ∧ S.size ≤ 4 * k ∧ at' = .int .i64 (k : Int) ∧ k ≤ s.size ∧ joinR pre k (bodyQ ((bs s).drop k)) = scanQ (bs s) ∧ Cells wr w.heap.size #[.string ⟨#[]⟩, .int .i64 0, .int .i64 0] 27 ∧ Below w.heap.size w wr) (fun _ at' _ => s.size - (intOf at').toNat)
      case atStart => exact ⟨1, [], _, rfl, Lib.hid rfl, by decide, rfl, by omega, HQ.out.symm, hx0, hbw⟩
      case round =>
        clear hx0 hbw HQ
        obtain ⟨k, pre, S, rfl, HS, hSk, rfl, hk, hj, hx, hb⟩ := hrel
        have HJ := Lib.hid hj
        have hBy : Byt ((bs s).drop k) := fun x hx => bs_lt x (List.mem_of_mem_drop hx)
        have hP := fun W => rpart_any s k W hk hs
        have hxl := hx.lt
        clear hj
        by_cases hh : ((bs s).drop k).head? = some 34
        · have HC : Hid (scanQ (bs s) = (pre, k + 1, 0)) := Lib.hid (by rw [← HJ.out, joinR_end hBy hh])
          obtain ⟨t, ht⟩ : ∃ t, (bs s).drop k = 34 :: t := by
            cases hd : (bs s).drop k with
            | nil => rw [hd] at hh; simp at hh
            | cons a t => rw [hd] at hh; simp at hh; subst hh; exact ⟨t, rfl⟩
          obtain ⟨hlt2, hbv2⟩ := bs_fact ht
          have hlt2' : k < s.size := hlt2
          have hxc0 := hx.cell 0 _ rfl
          have hxf0 := hx.frozen 0
          have hxc1 := hx.cell 1 _ rfl
          have hxf1 := hx.frozen 1
          have hxc2 := hx.cell 2 _ rfl
          have hxf2 := hx.frozen 2
          clear hh ht hBy hP HJ
          go_wp2
          refine bodyPost_ret (v := .agg #[.string S, .int .i64 ((k : Int) + 1), .int .i64 0]) (by simp [results, Tryd.results10, go_sem, partV, errR, un, strOf, *]) rfl ⟨by rw [HC.out, HS.out]; rfl, ?_⟩
          (repeat' (first | (with_reducible refine Below.setCell ?_ ?_ _) | (with_reducible refine Below.alloc ?_ ?_ _) | (with_reducible refine Below.drew ?_) | (with_reducible assumption) | (with_reducible exact Below.refl _ _) | (simp only [World.size_alloc, World.size_setCell, World.size_drew]; done) | (simp only [World.size_alloc, World.size_setCell, World.size_drew]; omega) | omega))
        · have hnot : ¬ k < s.size ∨ (∃ (h : k < s.size), (((s[k]'h).toNat : Int) == 34) = false) := by
            cases hd : (bs s).drop k with
            | nil => exact .inl (by have := drop_nil_iff hk hd; omega)
            | cons a t =>
              obtain ⟨hlt2, hbv2⟩ := bs_fact hd
              refine .inr ⟨hlt2, ?_⟩
              rw [hbv2, beq_eq_false_iff_ne]
              intro e
              exact hh (by rw [hd]; simp; omega)
          have HN := Lib.hid (fun (he : (partQ ((bs s).drop k)).2.2 = 0) => joinR_good hBy hh he (pre := pre) (k := k))
          have HB := Lib.hid (fun (he : (partQ ((bs s).drop k)).2.2 ≠ 0) => joinR_bad hBy hh he (pre := pre) (k := k))
          have HO := Lib.hid (fun (he : (partQ ((bs s).drop k)).2.2 = 0) => partQ_ok hBy he)
          rw [List.length_drop, bs_length] at HO
          rw [List.drop_drop] at HN
          clear hh hBy
          unfold partV at hP
          generalize partQ ((bs s).drop k) = q at *
          obtain ⟨o, z, e⟩ := q
          simp only at hP HN HB HO
          obtain ⟨O, hO⟩ : ∃ O, O = strOf (un o) := ⟨_, rfl⟩
          rw [← hO] at hP
          have HOO := Lib.hid hO
          clear hO
          by_cases he : e = 0
          · subst he
            obtain ⟨c0, -, ho4, hz1, hz2⟩ := HO.out rfl
            have hO4 : O.size ≤ 4 := by rw [HOO.out, strOf_size, un_length', ho4, putN_len]; exact (wid_pos c0).2
            clear ho4
            have HN2 : Hid (joinR (pre ++ o) (k + z) (bodyQ ((bs s).drop (k + z))) = scanQ (bs s)) := Lib.hid (by rw [← HJ.out, HN.out rfl])
            have HS2 : Hid (S ++ O = strOf (un (pre ++ o))) := Lib.hid (by rw [HS.out, HOO.out, un_append'])
            clear HN HB HO HJ
            rcases hnot with hnot | ⟨hlt2, hnot⟩
            · omega
            · go_wp2_with fail
              refine (hP _).mono ?_
              rintro e2 w2 ⟨rfl, hb2⟩
              have hz3 := hb2.size
              have hx2 := hx.below hb2 hxl
              have hb3 := (hb.trans (hb2.mono hb.size)).alloc (by have := hb.size; omega) (.cells #[.string O, .int .i64 z, .int .i64 0] 27)
              have hx3 := hx2.alloc (.cells #[.string O, .int .i64 z, .int .i64 0] 27)
              clear hx hb hP
              go_wp2
              go_roundw
              case rel => exact ⟨k + z, pre ++ o, _, rfl, HS2, by rw [ByteArray.size_append]; omega, by go_num, by omega, HN2.out, hx3, hb3⟩
              case measure => simp [intOf]; omega
          · have HC : Hid (scanQ (bs s) = errR e) := Lib.hid (by rw [← HJ.out, HB.out he])
            have hbe : ((e : Int) != 0) = true := by rw [bne_iff_ne]; omega
            clear HN HB HO HJ he
            rcases hnot with hnot | ⟨hlt2, hnot⟩
            all_goals
              go_wp2_with fail
              refine (hP _).mono ?_
              rintro e2 w2 ⟨rfl, hb2⟩
              have hz3 := hb2.size
              have hx2 := hx.below hb2 hxl
              have hb3 := (hb.trans (hb2.mono hb.size)).alloc (by have := hb.size; omega) (.cells #[.string O, .int .i64 z, .int .i64 e] 27)
              have hx3 := hx2.alloc (.cells #[.string O, .int .i64 z, .int .i64 e] 27)
              clear hx hx2
              have hx3c0 := hx3.cell 0 _ rfl
              have hx3f0 := hx3.frozen 0
              have hx3c1 := hx3.cell 1 _ rfl
              have hx3f1 := hx3.frozen 1
              have hx3c2 := hx3.cell 2 _ rfl
              have hx3f2 := hx3.frozen 2
              have hb2w := hb.trans (hb2.mono hb.size)
              clear hb hb2 hP
              go_wp2
              refine bodyPost_ret (v := partV (errR e)) (by simp [results, Tryd.results10, go_sem, partV, errR, un, strOf, *]) rfl ⟨by rw [HC.out], ?_⟩
              (repeat' (first | (with_reducible refine Below.setCell ?_ ?_ _) | (with_reducible refine Below.alloc ?_ ?_ _) | (with_reducible refine Below.drew ?_) | (with_reducible assumption) | (with_reducible exact Below.refl _ _) | (simp only [World.size_alloc, World.size_setCell, World.size_drew]; done) | (simp only [World.size_alloc, World.size_setCell, World.size_drew]; omega) | omega))
    · have HC : Hid (scanQ (c :: r) = errR 3) := Lib.hid (by simp only [scanQ]; rw [if_pos hc34])
      have hbc : ((c : Int) != 34) = true := by rw [bne_iff_ne]; omega
      clear hq hc34
      go_enter Tryd.func10, Tryd.ntmps10
      go_wp2
      refine bodyPost_ret (v := partV (errR 3)) (by simp [results, Tryd.results10, go_sem, partV, errR, un, strOf, *]) rfl ⟨by rw [HC.out], ?_⟩
      (repeat' (first | (with_reducible refine Below.setCell ?_ ?_ _) | (with_reducible refine Below.alloc ?_ ?_ _) | (with_reducible refine Below.drew ?_) | (with_reducible assumption) | (with_reducible exact Below.refl _ _) | (simp only [World.size_alloc, World.size_setCell, World.size_drew]; done) | (simp only [World.size_alloc, World.size_setCell, World.size_drew]; omega) | omega))
end Go.Proofs.YtgkgdmpbcneoiaaDoor
