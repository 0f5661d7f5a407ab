/- The walks of the parts behind a backslash (layer 7). -/
import Derived.Test.YtgkgdmpbcneoiaaDoorQuoA
namespace Go.Proofs.YtgkgdmpbcneoiaaDoor
open Go.RowKit Go.Tab

/-- Bytes as they are told. -/
def un (l : List Nat) : List UInt8 := l.map UInt8.ofNat
theorem un_append (a b : List Nat) : un (a ++ b) = un a ++ un b := by simp [un]
theorem un_putN (c : Nat) : un (putN c) = putU c := rfl

/-- The builder writes on. -/
theorem RdrAt.wrote {w : World} {g : Nat} {s : ByteArray} {k : Nat} {l' : List UInt8} {w' : World} {cs : Array Value} (h5 : cs.size = 4) (h6 : cs[0]? = some (.string s)) (h7 : cs[1]? = some (.int .i64 (k : Int)))
    (h : ∃ cs', Bld 45 g w' g 2 cs' l' ∧ Used g 2 cs cs' ∧ Below g w w' ∧ Beside 5 g w w') : RdrAt w' g s k l' ∧ Below g w w' ∧ Beside 5 g w w' := by
  obtain ⟨cs', hb, ⟨h1, h2, h3⟩, h8, h9⟩ := h
  exact ⟨⟨cs', hb, by rw [h1, h5], by rw [h2 0 (by omega) (by omega)]; exact h6, by rw [h2 1 (by omega) (by omega)]; exact h7⟩, h8, h9⟩
theorem rWB (w : World) (g : Nat) (s : ByteArray) (k : Nat) (l : List UInt8) (c : Nat) (n : Int) (hn : n = (c : Int)) (hc : c < 256) (h : RdrAt w g s k l) (hl : l.length ≤ 100000000) :
    Calls Tryd.prog 23 #[.pointer (some ⟨g, 2, none⟩), .int .u8 n] w fun e w' => e = .returned .nilIface ∧ RdrAt w' g s k (l ++ un [c]) ∧ Below g w w' ∧ Beside 5 g w w' := by
  obtain ⟨cs, hb, h5, h6, h7⟩ := h
  refine (WriteByte_any w (UInt8.ofNat c) n (by rw [hn, UInt8.toNat_ofNat']; omega) hb (by rw [h5]; exact in4) (Nat.le_refl _) (by omega)).mono ?_
  rintro e w' ⟨rfl, hh⟩
  exact ⟨rfl, RdrAt.wrote h5 h6 h7 hh⟩
theorem rWS (w : World) (g : Nat) (s : ByteArray) (k : Nat) (l : List UInt8) (x : ByteArray) (h : RdrAt w g s k l) (hl : l.length + x.size ≤ 100000000) :
    Calls Tryd.prog 25 #[.pointer (some ⟨g, 2, none⟩), .string x] w fun e w' => e = .returned (.tuple #[.int .i64 x.size, .nilIface]) ∧ RdrAt w' g s k (l ++ x.data.toList) ∧ Below g w w' ∧ Beside 5 g w w' := by
  obtain ⟨cs, hb, h5, h6, h7⟩ := h
  refine (WriteString_any w x hb (by rw [h5]; exact in4) (Nat.le_refl _) (by omega)).mono ?_
  rintro e w' ⟨rfl, hh⟩
  exact ⟨rfl, RdrAt.wrote h5 h6 h7 hh⟩

/-- A method that hands back nothing, reads a part q from the place k0 on, and stands at k0 + its size then; or throws. -/
def PartP (g : Nat) (s : ByteArray) (w : World) (v : Value) (k0 : Nat) (l : List UInt8) (q : PartR) (e : Ending) (w' : World) : Prop :=
  (q.2.2 = 0 ∧ OkR g s w v (k0 + q.2.1) (l ++ un q.1) e w') ∨ (q.2.2 ≠ 0 ∧ BadR g w (q.2.2 : Nat) e w')

theorem strOf_size (l : List UInt8) : (strOf l).size = l.length := by simp [strOf, ByteArray.size]
theorem Beside.of_below {E : TypeId} {g : Nat} {w w' : World} (h : Below w.heap.size w w') : Beside E g w w' :=
  ⟨h.size, fun k o _ ho _ => (h.block k (Array.getElem?_eq_some_iff.1 ho).1).trans ho⟩
theorem RdrAt.below {w w' : World} {g : Nat} {s : ByteArray} {k : Nat} {l : List UInt8} (h : RdrAt w g s k l) (hb : Below w.heap.size w w') : RdrAt w' g s k l := by
  obtain ⟨cs, ⟨h1, h2, v, h3, h4⟩, h5⟩ := h
  exact ⟨cs, ⟨h1.below hb h1.lt, h2, v, h3, h4.below hb (Nat.le_refl _)⟩, h5⟩


set_option maxHeartbeats 4000000 in
set_option maxRecDepth 100000 in
theorem number_any (w : World) (g : Nat) (s : ByteArray) (k : Nat) (l : List UInt8) (h : RdrAt w g s (k + 2) l) (hk : k + 2 ≤ s.size) (hs : s.size ≤ 1000000) (hl : l.length ≤ 1000000) :
    Calls Tryd.prog 34 #[.pointer (some ⟨g, 0, none⟩)] w (PartP g s w (.tuple #[]) k l (codedQ ((bs s).drop (k + 2)))) := by
  have h4 := four_any w g s (k + 2) l h hk hs
  have hbase : g ≤ w.heap.size := Nat.le_of_lt h.lt
  obtain ⟨r, hr⟩ : ∃ r, r = (bs s).drop (k + 2) := ⟨_, rfl⟩
  rw [← hr] at h4 ⊢
  by_cases hu : (unitQ r).2 = 0
  · obtain ⟨hv1, hv2⟩ := unitQ_val hu
    obtain ⟨n, hn⟩ : ∃ n, n = (unitQ r).1 := ⟨_, rfl⟩
    have hlen : k + 6 ≤ s.size := by rw [hr] at hv1; simp [bs_length] at hv1; omega
    rw [← hn] at hv2
    have h4' : Calls Tryd.prog 42 #[.pointer (some ⟨g, 0, none⟩)] w (OkR g s w (.int .i64 (n : Int)) (k + 2 + 4) l) := h4.mono fun e w' h => by
      rcases h with ⟨_, h⟩ | ⟨h, _⟩
      · rwa [hn]
      · exact absurd hu h
    by_cases h1 : 56320 ≤ n ∧ n ≤ 57343
    · have HC : Hid (codedQ r = errR 3) := Lib.hid (by unfold codedQ; rw [if_neg (by simp [hu]), if_pos (by rw [← hn]; exact h1)])
      clear h4 hu hn hr hv1
      go_enter Tryd.func34, Tryd.ntmps34
      go_wp2_with fail
      refine h4'.mono ?_
      rintro e w1 ⟨rfl, hR1, hb1, hB1⟩
      go_wp2_with fail
      refine (fail_any 3 _).mono ?_
      rintro e w2 ⟨rfl, rfl⟩
      go_wp2
      exact ⟨rfl, .inr ⟨by rw [HC.out]; simp [errR], by rw [HC.out]; rfl, hb1⟩⟩
    · by_cases h2 : n < 55296 ∨ 57343 < n
      · have HC : Hid (codedQ r = (putN n, 6, 0)) := Lib.hid (by unfold codedQ; rw [if_neg (by simp [hu]), if_neg (by rw [← hn]; exact h1), if_pos (by rw [← hn]; exact h2), ← hn])
        have hP := fun W => Put_any n W (by rw [isSc_iff]; omega)
        have hsz : (strOf (putU n)).size ≤ 4 := by rw [strOf_size, putU_length]; exact (wid_pos n).2
        clear h4 hu hn hr hv1
        rcases h2 with h2 | h2
        all_goals
          go_enter Tryd.func34, Tryd.ntmps34
          go_wp2_with fail
          refine h4'.mono ?_
          rintro e w1 ⟨rfl, hR1, hb1, hB1⟩
          go_wp2_with fail
          refine (hP _).mono ?_
          rintro e w2 ⟨rfl, hb2⟩
          have hR2 := hR1.below hb2
          have hz2 := hb2.size
          have hlt2 := hR1.lt
          go_wp2_with fail
          refine (rWS w2 g s _ l _ hR2 (by omega)).mono ?_
          rintro e w3 ⟨rfl, hR3, hb3, hB3⟩
          go_wp2
          go_end0
          exact .inl ⟨by rw [HC.out], by rw [HC.out]; exact ⟨rfl, hR3, (hb1.trans (hb2.mono (by omega))).trans hb3, (hB1.trans (Beside.of_below hb2)).trans hB3⟩⟩
      · have HC0 : Hid (codedQ r = lowQ n (r.drop 4)) := Lib.hid (by unfold codedQ; rw [if_neg (by simp [hu]), if_neg (by rw [← hn]; exact h1), if_neg (by rw [← hn]; exact h2), ← hn])
        have hr4 : r.drop 4 = (bs s).drop (k + 6) := by rw [hr, List.drop_drop]
        have hn3 : 55296 ≤ n ∧ n ≤ 56319 := by omega
        have b1 : decide ((56320 : Int) ≤ (n : Int)) = false := by simp; omega
        have b2 : decide ((55296 : Int) ≤ (n : Int)) = true := by simp; omega
        have b3 : decide ((n : Int) ≤ 56319) = true := by simp; omega
        have HN3 := Lib.hid hn3
        clear h4 hu hn hv1 h1 h2 hv2
        have HR := Lib.hid hr
        clear hr hn3
        cases hq : (bs s).drop (k + 6) with
        | nil =>
          have HC : Hid (codedQ r = errR 2) := Lib.hid (by rw [HC0.out, hr4, hq]; rfl)
          have hN := fun W h => rnext_nil W g s (k + 2 + 4) l h (by omega) hq hs
          clear hq hr4
          go_enter Tryd.func34, Tryd.ntmps34
          go_wp2_with fail
          refine h4'.mono ?_
          rintro e w1 ⟨rfl, hR1, hb1, hB1⟩
          go_wp2_with fail
          refine (hN _ hR1).mono ?_
          rintro e w2 ⟨rfl, hb2⟩
          go_wp2
          exact ⟨rfl, .inr ⟨by rw [HC.out]; simp [errR], by rw [HC.out]; rfl, hb1.trans hb2⟩⟩
        | cons c t =>
          have hN := fun W h => rnext_cons W g s (k + 2 + 4) l h hq hs
          have hc : c < 256 := bs_lt c (List.mem_of_mem_drop (by rw [hq]; simp))
          by_cases hc92 : c = 92
          · subst hc92
            obtain ⟨hd, hd2⟩ := drop_cons hq
            rw [bs_length] at hd2
            have hrt : r.drop 4 = 92 :: t := by rw [hr4, hq]
            cases ht : t with
            | nil =>
              have HC : Hid (codedQ r = errR 2) := Lib.hid (by rw [HC0.out, hrt, ht]; rfl)
              have hN2 := fun W h => rnext_nil W g s (k + 2 + 4 + 1) l h (by omega) (by rw [← ht]; exact hd) hs
              clear hq hr4 hrt ht hd
              go_enter Tryd.func34, Tryd.ntmps34
              go_wp2_with fail
              refine h4'.mono ?_
              rintro e w1 ⟨rfl, hR1, hb1, hB1⟩
              go_wp2_with fail
              refine (hN _ hR1).mono ?_
              rintro e w2 ⟨rfl, hR2, hb2, hB2⟩
              go_wp2_with fail
              refine (hN2 _ hR2).mono ?_
              rintro e w3 ⟨rfl, hb3⟩
              go_wp2
              exact ⟨rfl, .inr ⟨by rw [HC.out]; simp [errR], by rw [HC.out]; rfl, (hb1.trans hb2).trans hb3⟩⟩
            | cons d u =>
              subst ht
              have hN2 := fun W h => rnext_cons W g s (k + 2 + 4 + 1) l h hd hs
              have hdl : d < 256 := bs_lt d (List.mem_of_mem_drop (by rw [hd]; simp))
              obtain ⟨he, he2⟩ := drop_cons hd
              rw [bs_length] at he2
              by_cases hd117 : d = 117
              · subst hd117
                have hF := fun W h => four_any W g s (k + 2 + 4 + 1 + 1) l h (by omega) hs
                rw [show (bs s).drop (k + 2 + 4 + 1 + 1) = u from he] at hF
                clear hq hr4 he hd
                by_cases hm : (unitQ u).2 = 0
                · obtain ⟨hv3, hv4⟩ := unitQ_val hm
                  obtain ⟨m, hmm⟩ : ∃ m, m = (unitQ u).1 := ⟨_, rfl⟩
                  have hF' : ∀ W, RdrAt W g s (k + 2 + 4 + 1 + 1) l → Calls Tryd.prog 42 #[.pointer (some ⟨g, 0, none⟩)] W (OkR g s W (.int .i64 (m : Int)) (k + 2 + 4 + 1 + 1 + 4) l) := fun W h => (hF W h).mono fun e w' h => by
                    rcases h with ⟨_, h⟩ | ⟨h, _⟩
                    · rwa [hmm]
                    · exact absurd hm h
                  rw [← hmm] at hv4
                  clear hF
                  by_cases hlow : m < 56320 ∨ 57343 < m
                  · have HC : Hid (codedQ r = errR 3) := Lib.hid (by rw [HC0.out, hrt]; simp only [lowQ]; rw [if_neg (by simp), if_neg (by simp), if_neg (by simp [hm]), if_pos (by rw [← hmm]; exact hlow)])
                    clear hrt hm hmm
                    have HLOW := Lib.hid hlow
                    clear hlow hv4
                    · go_enter Tryd.func34, Tryd.ntmps34
                      go_wp2_with fail
                      refine h4'.mono ?_
                      rintro e w1 ⟨rfl, hR1, hb1, hB1⟩
                      go_wp2_with fail
                      refine (hN _ hR1).mono ?_
                      rintro e w2 ⟨rfl, hR2, hb2, hB2⟩
                      go_wp2_with fail
                      refine (hN2 _ hR2).mono ?_
                      rintro e w3 ⟨rfl, hR3, hb3, hB3⟩
                      go_wp2_with fail
                      refine (hF' _ hR3).mono ?_
                      rintro e w4 ⟨rfl, hR4, hb4, hB4⟩
                      have hlow2 : (decide ((m : Int) < 56320) = true) ∨ (decide ((m : Int) < 56320) = false ∧ decide ((57343 : Int) < (m : Int)) = true) := by
                        rcases HLOW.out with hlow | hlow
                        · exact .inl (by simp; omega)
                        · exact .inr ⟨by simp; omega, by simp; omega⟩
                      rcases hlow2 with hlow | ⟨hlow, hlow3⟩
                      all_goals
                        go_wp2_with fail
                        refine (fail_any 3 _).mono ?_
                        rintro e w5 ⟨rfl, rfl⟩
                        go_wp2
                        exact ⟨rfl, .inr ⟨by rw [HC.out]; simp [errR], by rw [HC.out]; rfl, ((hb1.trans hb2).trans hb3).trans hb4⟩⟩
                  · obtain ⟨x, hx⟩ : ∃ x, x = 65536 + (n - 55296) * 1024 + (m - 56320) := ⟨_, rfl⟩
                    have HC : Hid (codedQ r = (putN x, 12, 0)) := Lib.hid (by rw [HC0.out, hrt]; simp only [lowQ]; rw [if_neg (by simp), if_neg (by simp), if_neg (by simp [hm]), if_neg (by rw [← hmm]; exact hlow), hx, hmm])
                    have hP := fun W => Put_any x W (by have := HN3.out; rw [isSc_iff]; omega)
                    have hsz : (strOf (putU x)).size ≤ 4 := by rw [strOf_size, putU_length]; exact (wid_pos x).2
                    have hlow' : 56320 ≤ m ∧ m ≤ 57343 := by omega
                    have HLOW := Lib.hid hlow'
                    have hn3 := HN3.out
                    have E1 := Lib.hid (And.intro (show (0 : Int) ≤ (n : Int) - 55296 ∧ (n : Int) - 55296 ≤ 1023 by omega) (And.intro (show (0 : Int) ≤ (m : Int) - 56320 ∧ (m : Int) - 56320 ≤ 1023 by omega) (show (65536 : Int) + 1024 * ((n : Int) - 55296) + ((m : Int) - 56320) = (x : Int) by omega)))
                    clear hrt hm hmm hx hlow hlow' hv4 hn3
                    go_enter Tryd.func34, Tryd.ntmps34
                    go_wp2_with fail
                    refine h4'.mono ?_
                    rintro e w1 ⟨rfl, hR1, hb1, hB1⟩
                    go_wp2_with fail
                    refine (hN _ hR1).mono ?_
                    rintro e w20 ⟨rfl, hR20, hb20, hB20⟩
                    go_wp2_with fail
                    refine (hN2 _ hR20).mono ?_
                    rintro e w30 ⟨rfl, hR30, hb30, hB30⟩
                    go_wp2_with fail
                    refine (hF' _ hR30).mono ?_
                    rintro e w40 ⟨rfl, hR40, hb40, hB40⟩
                    have hd3 : decide ((m : Int) < 56320) = false := by have := HLOW.out; simp; omega
                    have hd4 : decide ((57343 : Int) < (m : Int)) = false := by have := HLOW.out; simp; omega
                    obtain ⟨e1, e2, hxi⟩ := E1.out
                    go_wp2_with fail
                    refine (hP _).mono ?_
                    rintro e w2 ⟨rfl, hb2⟩
                    have hR2 := hR40.below hb2
                    have hz2 := hb2.size
                    have hlt2 := hR40.lt
                    go_wp2_with fail
                    refine (rWS w2 g s _ l _ hR2 (by omega)).mono ?_
                    rintro e w3 ⟨rfl, hR3, hb3, hB3⟩
                    go_wp2
                    go_end0
                    exact .inl ⟨by rw [HC.out], by rw [HC.out]; exact ⟨rfl, hR3, ((((hb1.trans hb20).trans hb30).trans hb40).trans (hb2.mono (by omega))).trans hb3, ((((hB1.trans hB20).trans hB30).trans hB40).trans (Beside.of_below hb2)).trans hB3⟩⟩
                · have HC : Hid (codedQ r = errR (unitQ u).2) := Lib.hid (by rw [HC0.out, hrt]; simp only [lowQ]; rw [if_neg (by simp), if_neg (by simp), if_pos (by simpa using hm)])
                  have hF' : ∀ W, RdrAt W g s (k + 2 + 4 + 1 + 1) l → Calls Tryd.prog 42 #[.pointer (some ⟨g, 0, none⟩)] W (BadR g W ((unitQ u).2 : Nat)) := fun W h => (hF W h).mono fun e w' h => by
                    rcases h with ⟨h, _⟩ | ⟨_, h⟩
                    · exact absurd h hm
                    · exact h
                  clear hF hrt
                  go_enter Tryd.func34, Tryd.ntmps34
                  go_wp2_with fail
                  refine h4'.mono ?_
                  rintro e w1 ⟨rfl, hR1, hb1, hB1⟩
                  go_wp2_with fail
                  refine (hN _ hR1).mono ?_
                  rintro e w2 ⟨rfl, hR2, hb2, hB2⟩
                  go_wp2_with fail
                  refine (hN2 _ hR2).mono ?_
                  rintro e w3 ⟨rfl, hR3, hb3, hB3⟩
                  go_wp2_with fail
                  refine (hF' _ hR3).mono ?_
                  rintro e w4 ⟨rfl, hb4⟩
                  go_wp2
                  exact ⟨rfl, .inr ⟨by rw [HC.out]; exact hm, by rw [HC.out]; rfl, ((hb1.trans hb2).trans hb3).trans hb4⟩⟩
              · have HC : Hid (codedQ r = errR 3) := Lib.hid (by rw [HC0.out, hrt]; simp only [lowQ]; rw [if_neg (by simp), if_pos (by simpa using hd117)])
                have hbd : ((d : Int) != 117) = true := by rw [bne_iff_ne]; omega
                clear hq hr4 hrt hd he hd117
                go_enter Tryd.func34, Tryd.ntmps34
                go_wp2_with fail
                refine h4'.mono ?_
                rintro e w1 ⟨rfl, hR1, hb1, hB1⟩
                go_wp2_with fail
                refine (hN _ hR1).mono ?_
                rintro e w2 ⟨rfl, hR2, hb2, hB2⟩
                go_wp2_with fail
                refine (hN2 _ hR2).mono ?_
                rintro e w3 ⟨rfl, hR3, hb3, hB3⟩
                go_wp2_with fail
                refine (fail_any 3 _).mono ?_
                rintro e w4 ⟨rfl, rfl⟩
                go_wp2
                exact ⟨rfl, .inr ⟨by rw [HC.out]; simp [errR], by rw [HC.out]; rfl, (hb1.trans hb2).trans hb3⟩⟩
          · have HC : Hid (codedQ r = errR 3) := Lib.hid (by rw [HC0.out, hr4, hq]; simp only [lowQ]; rw [if_pos (by simpa using hc92)])
            have hbc : ((c : Int) != 92) = true := by rw [bne_iff_ne]; omega
            clear hq hr4 hc92
            go_enter Tryd.func34, Tryd.ntmps34
            go_wp2_with fail
            refine h4'.mono ?_
            rintro e w1 ⟨rfl, hR1, hb1, hB1⟩
            go_wp2_with fail
            refine (hN _ hR1).mono ?_
            rintro e w2 ⟨rfl, hR2, hb2, hB2⟩
            go_wp2_with fail
            refine (fail_any 3 _).mono ?_
            rintro e w3 ⟨rfl, rfl⟩
            go_wp2
            exact ⟨rfl, .inr ⟨by rw [HC.out]; simp [errR], by rw [HC.out]; rfl, hb1.trans hb2⟩⟩
  · have h4' : Calls Tryd.prog 42 #[.pointer (some ⟨g, 0, none⟩)] w (BadR g w ((unitQ r).2 : Nat)) := h4.mono fun e w' h => by
      rcases h with ⟨h, _⟩ | ⟨_, h⟩
      · exact absurd h hu
      · exact h
    have HC : Hid (codedQ r = errR (unitQ r).2) := Lib.hid (by unfold codedQ; rw [if_pos (by simpa using hu)])
    clear h4
    have HR := Lib.hid hr
    clear hr
    go_enter Tryd.func34, Tryd.ntmps34
    go_wp2_with fail
    refine h4'.mono ?_
    rintro e w1 ⟨rfl, hb1⟩
    go_wp2
    exact ⟨rfl, .inr ⟨by rw [HC.out]; exact hu, by rw [HC.out]; rfl, hb1⟩⟩
end Go.Proofs.YtgkgdmpbcneoiaaDoor
