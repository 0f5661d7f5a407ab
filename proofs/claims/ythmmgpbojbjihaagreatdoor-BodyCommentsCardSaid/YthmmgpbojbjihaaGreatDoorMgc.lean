/- Texts of this claim, one behind the other: QuoB, QuoC, UtfG, UtfH, UtfI, UtfK, QuoD, QuoE, QuoF, QuoG, ExD, ExE, ExF, ExG. -/
import Derived.Test.YthmmgpbojbjihaaGreatDoorMgb
import Derived.RangeFuncNested
import Derived.RangeFuncBound
import Derived.RangeFuncBox
import Derived.RangeFuncCalls
import Derived.RangeFuncLeaves
import Derived.Shelf.Abstract
import Derived.Shelf.RegionOpen
import Derived.WalkKit
import Derived.OwnWalkIn
import Derived.TacticsInMore
import Derived.LoopNIn
import Derived.LoopIn
import Derived.Maps.AppendAt
import Derived.Sort.QuietIn
import Derived.RegionIn
import Derived.Defers
import Derived.Recover
import Derived.Deep.RegionHeld3
set_option linter.unusedSimpArgs false
set_option linter.unusedVariables false

/- The walks of the parts behind a backslash (layer 7). -/
namespace Go.Proofs.YthmmgpbojbjihaaGreatDoor
open Go.RowKit Go.Tab

/-- Bytes as they are told. -/
def un (l : List Nat) : List UInt8 := l.map UInt8.ofNat
theorem un_append (a b : List Nat) : un (a ++ b) = un a ++ un b := by simp [un]
theorem un_putN (c : Nat) : un (putN c) = putU c := rfl

/-- The builder writes on. -/
theorem RdrAt.wrote {w : World} {g : Nat} {s : ByteArray} {k : Nat} {l' : List UInt8} {w' : World} {cs : Array Value} (h5 : cs.size = 4) (h6 : cs[0]? = some (.string s)) (h7 : cs[1]? = some (.int .i64 (k : Int)))
    (h : ∃ cs', Bld 88 g w' g 2 cs' l' ∧ Used g 2 cs cs' ∧ Below g w w' ∧ Beside 5 g w w') : RdrAt w' g s k l' ∧ Below g w w' ∧ Beside 5 g w w' := by
  obtain ⟨cs', hb, ⟨h1, h2, h3⟩, h8, h9⟩ := h
  exact ⟨⟨cs', hb, by rw [h1, h5], by rw [h2 0 (by omega) (by omega)]; exact h6, by rw [h2 1 (by omega) (by omega)]; exact h7⟩, h8, h9⟩
theorem rWB (w : World) (g : Nat) (s : ByteArray) (k : Nat) (l : List UInt8) (c : Nat) (n : Int) (hn : n = (c : Int)) (hc : c < 256) (h : RdrAt w g s k l) (hl : l.length ≤ 100000000) :
    Calls Tryz.prog 65 #[.pointer (some ⟨g, 2, none⟩), .int .u8 n] w fun e w' => e = .returned .nilIface ∧ RdrAt w' g s k (l ++ un [c]) ∧ Below g w w' ∧ Beside 5 g w w' := by
  obtain ⟨cs, hb, h5, h6, h7⟩ := h
  refine (WriteByte_any w (UInt8.ofNat c) n (by rw [hn, UInt8.toNat_ofNat']; omega) hb (by rw [h5]; exact in4) (Nat.le_refl _) (by omega)).mono ?_
  rintro e w' ⟨rfl, hh⟩
  exact ⟨rfl, RdrAt.wrote h5 h6 h7 hh⟩
theorem rWS (w : World) (g : Nat) (s : ByteArray) (k : Nat) (l : List UInt8) (x : ByteArray) (h : RdrAt w g s k l) (hl : l.length + x.size ≤ 100000000) :
    Calls Tryz.prog 91 #[.pointer (some ⟨g, 2, none⟩), .string x] w fun e w' => e = .returned (.tuple #[.int .i64 x.size, .nilIface]) ∧ RdrAt w' g s k (l ++ x.data.toList) ∧ Below g w w' ∧ Beside 5 g w w' := by
  obtain ⟨cs, hb, h5, h6, h7⟩ := h
  refine (WriteString_any w x hb (by rw [h5]; exact in4) (Nat.le_refl _) (by omega)).mono ?_
  rintro e w' ⟨rfl, hh⟩
  exact ⟨rfl, RdrAt.wrote h5 h6 h7 hh⟩

/-- A method that hands back nothing, reads a part q from the place k0 on, and stands at k0 + its size then; or throws. -/
def PartP (g : Nat) (s : ByteArray) (w : World) (v : Value) (k0 : Nat) (l : List UInt8) (q : PartR) (e : Ending) (w' : World) : Prop :=
  (q.2.2 = 0 ∧ OkR g s w v (k0 + q.2.1) (l ++ un q.1) e w') ∨ (q.2.2 ≠ 0 ∧ BadR g w (q.2.2 : Nat) e w')

theorem strOf_size (l : List UInt8) : (strOf l).size = l.length := by simp [strOf, ByteArray.size]
theorem Beside.of_below {E : TypeId} {g : Nat} {w w' : World} (h : Below w.heap.size w w') : Beside E g w w' :=
  ⟨h.size, fun k o _ ho _ => (h.block k (Array.getElem?_eq_some_iff.1 ho).1).trans ho⟩
theorem RdrAt.below {w w' : World} {g : Nat} {s : ByteArray} {k : Nat} {l : List UInt8} (h : RdrAt w g s k l) (hb : Below w.heap.size w w') : RdrAt w' g s k l := by
  obtain ⟨cs, ⟨h1, h2, v, h3, h4⟩, h5⟩ := h
  exact ⟨cs, ⟨h1.below hb h1.lt, h2, v, h3, h4.below hb (Nat.le_refl _)⟩, h5⟩


set_option maxHeartbeats 4000000 in
set_option maxRecDepth 100000 in
theorem number_any (w : World) (g : Nat) (s : ByteArray) (k : Nat) (l : List UInt8) (h : RdrAt w g s (k + 2) l) (hk : k + 2 ≤ s.size) (hs : s.size ≤ 1000000) (hl : l.length ≤ 9000000) :
    Calls Tryz.prog 88 #[.pointer (some ⟨g, 0, none⟩)] w (PartP g s w (.tuple #[]) k l (codedQ ((bs s).drop (k + 2)))) := by
  have h4 := four_any w g s (k + 2) l h hk hs
  have hbase : g ≤ w.heap.size := Nat.le_of_lt h.lt
  obtain ⟨r, hr⟩ : ∃ r, r = (bs s).drop (k + 2) := ⟨_, rfl⟩
  rw [← hr] at h4 ⊢
  by_cases hu : (unitQ r).2 = 0
  · obtain ⟨hv1, hv2⟩ := unitQ_val hu
    obtain ⟨n, hn⟩ : ∃ n, n = (unitQ r).1 := ⟨_, rfl⟩
    have hlen : k + 6 ≤ s.size := by rw [hr] at hv1; simp [bs_length] at hv1; omega
    rw [← hn] at hv2
    have h4' : Calls Tryz.prog 105 #[.pointer (some ⟨g, 0, none⟩)] w (OkR g s w (.int .i64 (n : Int)) (k + 2 + 4) l) := h4.mono fun e w' h => by
      rcases h with ⟨_, h⟩ | ⟨h, _⟩
      · rwa [hn]
      · exact absurd hu h
    by_cases h1 : 56320 ≤ n ∧ n ≤ 57343
    · have HC : Hid (codedQ r = errR 3) := Lib.hid (by unfold codedQ; rw [if_neg (by simp [hu]), if_pos (by rw [← hn]; exact h1)])
      clear h4 hu hn hr hv1
      go_enter Tryz.func88, Tryz.ntmps88
      go_wp2_with fail
      refine h4'.mono ?_
      rintro e w1 ⟨rfl, hR1, hb1, hB1⟩
      go_wp2_with fail
      refine (fail_any 3 _).mono ?_
      rintro e w2 ⟨rfl, rfl⟩
      go_wp2
      exact ⟨rfl, .inr ⟨by rw [HC.out]; simp [errR], by rw [HC.out]; rfl, hb1⟩⟩
    · by_cases h2 : n < 55296 ∨ 57343 < n
      · have HC : Hid (codedQ r = (putN n, 6, 0)) := Lib.hid (by unfold codedQ; rw [if_neg (by simp [hu]), if_neg (by rw [← hn]; exact h1), if_pos (by rw [← hn]; exact h2), ← hn])
        have hP := fun W => Put_any n W (by rw [isSc_iff]; omega)
        have hsz : (strOf (putU n)).size ≤ 4 := by rw [strOf_size, putU_length]; exact (wid_pos n).2
        clear h4 hu hn hr hv1
        rcases h2 with h2 | h2
        all_goals
          go_enter Tryz.func88, Tryz.ntmps88
          go_wp2_with fail
          refine h4'.mono ?_
          rintro e w1 ⟨rfl, hR1, hb1, hB1⟩
          go_wp2_with fail
          refine (hP _).mono ?_
          rintro e w2 ⟨rfl, hb2⟩
          have hR2 := hR1.below hb2
          have hz2 := hb2.size
          have hlt2 := hR1.lt
          go_wp2_with fail
          refine (rWS w2 g s _ l _ hR2 (by omega)).mono ?_
          rintro e w3 ⟨rfl, hR3, hb3, hB3⟩
          go_wp2
          go_end0
          exact .inl ⟨by rw [HC.out], by rw [HC.out]; exact ⟨rfl, hR3, (hb1.trans (hb2.mono (by omega))).trans hb3, (hB1.trans (Beside.of_below hb2)).trans hB3⟩⟩
      · have HC0 : Hid (codedQ r = lowQ n (r.drop 4)) := Lib.hid (by unfold codedQ; rw [if_neg (by simp [hu]), if_neg (by rw [← hn]; exact h1), if_neg (by rw [← hn]; exact h2), ← hn])
        have hr4 : r.drop 4 = (bs s).drop (k + 6) := by rw [hr, List.drop_drop]
        have hn3 : 55296 ≤ n ∧ n ≤ 56319 := by omega
        have b1 : decide ((56320 : Int) ≤ (n : Int)) = false := by simp; omega
        have b2 : decide ((55296 : Int) ≤ (n : Int)) = true := by simp; omega
        have b3 : decide ((n : Int) ≤ 56319) = true := by simp; omega
        have HN3 := Lib.hid hn3
        clear h4 hu hn hv1 h1 h2 hv2
        have HR := Lib.hid hr
        clear hr hn3
        cases hq : (bs s).drop (k + 6) with
        | nil =>
          have HC : Hid (codedQ r = errR 2) := Lib.hid (by rw [HC0.out, hr4, hq]; rfl)
          have hN := fun W h => rnext_nil W g s (k + 2 + 4) l h (by omega) hq hs
          clear hq hr4
          go_enter Tryz.func88, Tryz.ntmps88
          go_wp2_with fail
          refine h4'.mono ?_
          rintro e w1 ⟨rfl, hR1, hb1, hB1⟩
          go_wp2_with fail
          refine (hN _ hR1).mono ?_
          rintro e w2 ⟨rfl, hb2⟩
          go_wp2
          exact ⟨rfl, .inr ⟨by rw [HC.out]; simp [errR], by rw [HC.out]; rfl, hb1.trans hb2⟩⟩
        | cons c t =>
          have hN := fun W h => rnext_cons W g s (k + 2 + 4) l h hq hs
          have hc : c < 256 := bs_lt c (List.mem_of_mem_drop (by rw [hq]; simp))
          by_cases hc92 : c = 92
          · subst hc92
            obtain ⟨hd, hd2⟩ := drop_cons hq
            rw [bs_length] at hd2
            have hrt : r.drop 4 = 92 :: t := by rw [hr4, hq]
            cases ht : t with
            | nil =>
              have HC : Hid (codedQ r = errR 2) := Lib.hid (by rw [HC0.out, hrt, ht]; rfl)
              have hN2 := fun W h => rnext_nil W g s (k + 2 + 4 + 1) l h (by omega) (by rw [← ht]; exact hd) hs
              clear hq hr4 hrt ht hd
              go_enter Tryz.func88, Tryz.ntmps88
              go_wp2_with fail
              refine h4'.mono ?_
              rintro e w1 ⟨rfl, hR1, hb1, hB1⟩
              go_wp2_with fail
              refine (hN _ hR1).mono ?_
              rintro e w2 ⟨rfl, hR2, hb2, hB2⟩
              go_wp2_with fail
              refine (hN2 _ hR2).mono ?_
              rintro e w3 ⟨rfl, hb3⟩
              go_wp2
              exact ⟨rfl, .inr ⟨by rw [HC.out]; simp [errR], by rw [HC.out]; rfl, (hb1.trans hb2).trans hb3⟩⟩
            | cons d u =>
              subst ht
              have hN2 := fun W h => rnext_cons W g s (k + 2 + 4 + 1) l h hd hs
              have hdl : d < 256 := bs_lt d (List.mem_of_mem_drop (by rw [hd]; simp))
              obtain ⟨he, he2⟩ := drop_cons hd
              rw [bs_length] at he2
              by_cases hd117 : d = 117
              · subst hd117
                have hF := fun W h => four_any W g s (k + 2 + 4 + 1 + 1) l h (by omega) hs
                rw [show (bs s).drop (k + 2 + 4 + 1 + 1) = u from he] at hF
                clear hq hr4 he hd
                by_cases hm : (unitQ u).2 = 0
                · obtain ⟨hv3, hv4⟩ := unitQ_val hm
                  obtain ⟨m, hmm⟩ : ∃ m, m = (unitQ u).1 := ⟨_, rfl⟩
                  have hF' : ∀ W, RdrAt W g s (k + 2 + 4 + 1 + 1) l → Calls Tryz.prog 105 #[.pointer (some ⟨g, 0, none⟩)] W (OkR g s W (.int .i64 (m : Int)) (k + 2 + 4 + 1 + 1 + 4) l) := fun W h => (hF W h).mono fun e w' h => by
                    rcases h with ⟨_, h⟩ | ⟨h, _⟩
                    · rwa [hmm]
                    · exact absurd hm h
                  rw [← hmm] at hv4
                  clear hF
                  by_cases hlow : m < 56320 ∨ 57343 < m
                  · have HC : Hid (codedQ r = errR 3) := Lib.hid (by rw [HC0.out, hrt]; simp only [lowQ]; rw [if_neg (by simp), if_neg (by simp), if_neg (by simp [hm]), if_pos (by rw [← hmm]; exact hlow)])
                    clear hrt hm hmm
                    have HLOW := Lib.hid hlow
                    clear hlow hv4
                    · go_enter Tryz.func88, Tryz.ntmps88
                      go_wp2_with fail
                      refine h4'.mono ?_
                      rintro e w1 ⟨rfl, hR1, hb1, hB1⟩
                      go_wp2_with fail
                      refine (hN _ hR1).mono ?_
                      rintro e w2 ⟨rfl, hR2, hb2, hB2⟩
                      go_wp2_with fail
                      refine (hN2 _ hR2).mono ?_
                      rintro e w3 ⟨rfl, hR3, hb3, hB3⟩
                      go_wp2_with fail
                      refine (hF' _ hR3).mono ?_
                      rintro e w4 ⟨rfl, hR4, hb4, hB4⟩
                      have hlow2 : (decide ((m : Int) < 56320) = true) ∨ (decide ((m : Int) < 56320) = false ∧ decide ((57343 : Int) < (m : Int)) = true) := by
                        rcases HLOW.out with hlow | hlow
                        · exact .inl (by simp; omega)
                        · exact .inr ⟨by simp; omega, by simp; omega⟩
                      rcases hlow2 with hlow | ⟨hlow, hlow3⟩
                      all_goals
                        go_wp2_with fail
                        refine (fail_any 3 _).mono ?_
                        rintro e w5 ⟨rfl, rfl⟩
                        go_wp2
                        exact ⟨rfl, .inr ⟨by rw [HC.out]; simp [errR], by rw [HC.out]; rfl, ((hb1.trans hb2).trans hb3).trans hb4⟩⟩
                  · obtain ⟨x, hx⟩ : ∃ x, x = 65536 + (n - 55296) * 1024 + (m - 56320) := ⟨_, rfl⟩
                    have HC : Hid (codedQ r = (putN x, 12, 0)) := Lib.hid (by rw [HC0.out, hrt]; simp only [lowQ]; rw [if_neg (by simp), if_neg (by simp), if_neg (by simp [hm]), if_neg (by rw [← hmm]; exact hlow), hx, hmm])
                    have hP := fun W => Put_any x W (by have := HN3.out; rw [isSc_iff]; omega)
                    have hsz : (strOf (putU x)).size ≤ 4 := by rw [strOf_size, putU_length]; exact (wid_pos x).2
                    have hlow' : 56320 ≤ m ∧ m ≤ 57343 := by omega
                    have HLOW := Lib.hid hlow'
                    have hn3 := HN3.out
                    have E1 := Lib.hid (And.intro (show (0 : Int) ≤ (n : Int) - 55296 ∧ (n : Int) - 55296 ≤ 1023 by omega) (And.intro (show (0 : Int) ≤ (m : Int) - 56320 ∧ (m : Int) - 56320 ≤ 1023 by omega) (show (65536 : Int) + 1024 * ((n : Int) - 55296) + ((m : Int) - 56320) = (x : Int) by omega)))
                    clear hrt hm hmm hx hlow hlow' hv4 hn3
                    go_enter Tryz.func88, Tryz.ntmps88
                    go_wp2_with fail
                    refine h4'.mono ?_
                    rintro e w1 ⟨rfl, hR1, hb1, hB1⟩
                    go_wp2_with fail
                    refine (hN _ hR1).mono ?_
                    rintro e w20 ⟨rfl, hR20, hb20, hB20⟩
                    go_wp2_with fail
                    refine (hN2 _ hR20).mono ?_
                    rintro e w30 ⟨rfl, hR30, hb30, hB30⟩
                    go_wp2_with fail
                    refine (hF' _ hR30).mono ?_
                    rintro e w40 ⟨rfl, hR40, hb40, hB40⟩
                    have hd3 : decide ((m : Int) < 56320) = false := by have := HLOW.out; simp; omega
                    have hd4 : decide ((57343 : Int) < (m : Int)) = false := by have := HLOW.out; simp; omega
                    obtain ⟨e1, e2, hxi⟩ := E1.out
                    go_wp2_with fail
                    refine (hP _).mono ?_
                    rintro e w2 ⟨rfl, hb2⟩
                    have hR2 := hR40.below hb2
                    have hz2 := hb2.size
                    have hlt2 := hR40.lt
                    go_wp2_with fail
                    refine (rWS w2 g s _ l _ hR2 (by omega)).mono ?_
                    rintro e w3 ⟨rfl, hR3, hb3, hB3⟩
                    go_wp2
                    go_end0
                    exact .inl ⟨by rw [HC.out], by rw [HC.out]; exact ⟨rfl, hR3, ((((hb1.trans hb20).trans hb30).trans hb40).trans (hb2.mono (by omega))).trans hb3, ((((hB1.trans hB20).trans hB30).trans hB40).trans (Beside.of_below hb2)).trans hB3⟩⟩
                · have HC : Hid (codedQ r = errR (unitQ u).2) := Lib.hid (by rw [HC0.out, hrt]; simp only [lowQ]; rw [if_neg (by simp), if_neg (by simp), if_pos (by simpa using hm)])
                  have hF' : ∀ W, RdrAt W g s (k + 2 + 4 + 1 + 1) l → Calls Tryz.prog 105 #[.pointer (some ⟨g, 0, none⟩)] W (BadR g W ((unitQ u).2 : Nat)) := fun W h => (hF W h).mono fun e w' h => by
                    rcases h with ⟨h, _⟩ | ⟨_, h⟩
                    · exact absurd h hm
                    · exact h
                  clear hF hrt
                  go_enter Tryz.func88, Tryz.ntmps88
                  go_wp2_with fail
                  refine h4'.mono ?_
                  rintro e w1 ⟨rfl, hR1, hb1, hB1⟩
                  go_wp2_with fail
                  refine (hN _ hR1).mono ?_
                  rintro e w2 ⟨rfl, hR2, hb2, hB2⟩
                  go_wp2_with fail
                  refine (hN2 _ hR2).mono ?_
                  rintro e w3 ⟨rfl, hR3, hb3, hB3⟩
                  go_wp2_with fail
                  refine (hF' _ hR3).mono ?_
                  rintro e w4 ⟨rfl, hb4⟩
                  go_wp2
                  exact ⟨rfl, .inr ⟨by rw [HC.out]; exact hm, by rw [HC.out]; rfl, ((hb1.trans hb2).trans hb3).trans hb4⟩⟩
              · have HC : Hid (codedQ r = errR 3) := Lib.hid (by rw [HC0.out, hrt]; simp only [lowQ]; rw [if_neg (by simp), if_pos (by simpa using hd117)])
                have hbd : ((d : Int) != 117) = true := by rw [bne_iff_ne]; omega
                clear hq hr4 hrt hd he hd117
                go_enter Tryz.func88, Tryz.ntmps88
                go_wp2_with fail
                refine h4'.mono ?_
                rintro e w1 ⟨rfl, hR1, hb1, hB1⟩
                go_wp2_with fail
                refine (hN _ hR1).mono ?_
                rintro e w2 ⟨rfl, hR2, hb2, hB2⟩
                go_wp2_with fail
                refine (hN2 _ hR2).mono ?_
                rintro e w3 ⟨rfl, hR3, hb3, hB3⟩
                go_wp2_with fail
                refine (fail_any 3 _).mono ?_
                rintro e w4 ⟨rfl, rfl⟩
                go_wp2
                exact ⟨rfl, .inr ⟨by rw [HC.out]; simp [errR], by rw [HC.out]; rfl, (hb1.trans hb2).trans hb3⟩⟩
          · have HC : Hid (codedQ r = errR 3) := Lib.hid (by rw [HC0.out, hr4, hq]; simp only [lowQ]; rw [if_pos (by simpa using hc92)])
            have hbc : ((c : Int) != 92) = true := by rw [bne_iff_ne]; omega
            clear hq hr4 hc92
            go_enter Tryz.func88, Tryz.ntmps88
            go_wp2_with fail
            refine h4'.mono ?_
            rintro e w1 ⟨rfl, hR1, hb1, hB1⟩
            go_wp2_with fail
            refine (hN _ hR1).mono ?_
            rintro e w2 ⟨rfl, hR2, hb2, hB2⟩
            go_wp2_with fail
            refine (fail_any 3 _).mono ?_
            rintro e w3 ⟨rfl, rfl⟩
            go_wp2
            exact ⟨rfl, .inr ⟨by rw [HC.out]; simp [errR], by rw [HC.out]; rfl, hb1.trans hb2⟩⟩
  · have h4' : Calls Tryz.prog 105 #[.pointer (some ⟨g, 0, none⟩)] w (BadR g w ((unitQ r).2 : Nat)) := h4.mono fun e w' h => by
      rcases h with ⟨h, _⟩ | ⟨_, h⟩
      · exact absurd h hu
      · exact h
    have HC : Hid (codedQ r = errR (unitQ r).2) := Lib.hid (by unfold codedQ; rw [if_pos (by simpa using hu)])
    clear h4
    have HR := Lib.hid hr
    clear hr
    go_enter Tryz.func88, Tryz.ntmps88
    go_wp2_with fail
    refine h4'.mono ?_
    rintro e w1 ⟨rfl, hb1⟩
    go_wp2
    exact ⟨rfl, .inr ⟨by rw [HC.out]; exact hu, by rw [HC.out]; rfl, hb1⟩⟩
end Go.Proofs.YthmmgpbojbjihaaGreatDoor

/- The walk of what stands behind a backslash (layer 7). -/
namespace Go.Proofs.YthmmgpbojbjihaaGreatDoor
open Go.RowKit Go.Tab


set_option maxHeartbeats 4000000 in
set_option maxRecDepth 100000 in
theorem escape_any (w : World) (g : Nat) (s : ByteArray) (k : Nat) (l : List UInt8) (h : RdrAt w g s (k + 1) l) (hk : k + 1 ≤ s.size) (hs : s.size ≤ 1000000) (hl : l.length ≤ 9000000) :
    Calls Tryz.prog 64 #[.pointer (some ⟨g, 0, none⟩)] w (PartP g s w (.tuple #[]) k l (escQ ((bs s).drop (k + 1)))) := by
  obtain ⟨r, hr⟩ : ∃ r, r = (bs s).drop (k + 1) := ⟨_, rfl⟩
  rw [← hr]
  cases hq : r with
  | nil =>
    have hN := fun W h => rnext_nil W g s (k + 1) l h hk (by rw [← hr]; exact hq) hs
    have HC : Hid (escQ r = errR 2) := Lib.hid (by rw [hq]; rfl)
    rw [← hq]
    have HR := Lib.hid hr
    clear hq hr
    go_enter Tryz.func64, Tryz.ntmps64
    go_wp2_with fail
    refine (hN _ h).mono ?_
    rintro e w1 ⟨rfl, hb1⟩
    go_wp2
    exact ⟨rfl, .inr ⟨by rw [HC.out]; simp [errR], by rw [HC.out]; rfl, hb1⟩⟩
  | cons c t =>
    rw [← hq]
    have hN0 : (bs s).drop (k + 1) = c :: t := by rw [← hr]; exact hq
    have hN := fun W h => rnext_cons W g s (k + 1) l h hN0 hs
    have hc : c < 256 := bs_lt c (List.mem_of_mem_drop (by rw [hN0]; simp))
    have HR := Lib.hid hr
    clear hr
    by_cases hc34 : c = 34
    · subst hc34
      have HC : Hid (escQ r = ([34], 2, 0)) := Lib.hid (by rw [hq]; rfl)
      clear hq hN0
      go_enter Tryz.func64, Tryz.ntmps64
      go_wp2_with fail
      refine (hN _ h).mono ?_
      rintro e w1 ⟨rfl, hR1, hb1, hB1⟩
      go_wp2_with fail
      refine (rWB w1 g s _ l 34 _ (by first | rfl | decide) (by omega) hR1 (by omega)).mono ?_
      rintro e w2 ⟨rfl, hR2, hb2, hB2⟩
      go_wp2
      go_end0
      exact .inl ⟨by rw [HC.out], by rw [HC.out]; exact ⟨rfl, hR2, hb1.trans hb2, hB1.trans hB2⟩⟩
    by_cases hc92 : c = 92
    · subst hc92
      have HC : Hid (escQ r = ([92], 2, 0)) := Lib.hid (by rw [hq]; rfl)
      clear hq hN0
      go_enter Tryz.func64, Tryz.ntmps64
      go_wp2_with fail
      refine (hN _ h).mono ?_
      rintro e w1 ⟨rfl, hR1, hb1, hB1⟩
      go_wp2_with fail
      refine (rWB w1 g s _ l 92 _ (by first | rfl | decide) (by omega) hR1 (by omega)).mono ?_
      rintro e w2 ⟨rfl, hR2, hb2, hB2⟩
      go_wp2
      go_end0
      exact .inl ⟨by rw [HC.out], by rw [HC.out]; exact ⟨rfl, hR2, hb1.trans hb2, hB1.trans hB2⟩⟩
    by_cases hc47 : c = 47
    · subst hc47
      have HC : Hid (escQ r = ([47], 2, 0)) := Lib.hid (by rw [hq]; rfl)
      clear hq hN0
      go_enter Tryz.func64, Tryz.ntmps64
      go_wp2_with fail
      refine (hN _ h).mono ?_
      rintro e w1 ⟨rfl, hR1, hb1, hB1⟩
      go_wp2_with fail
      refine (rWB w1 g s _ l 47 _ (by first | rfl | decide) (by omega) hR1 (by omega)).mono ?_
      rintro e w2 ⟨rfl, hR2, hb2, hB2⟩
      go_wp2
      go_end0
      exact .inl ⟨by rw [HC.out], by rw [HC.out]; exact ⟨rfl, hR2, hb1.trans hb2, hB1.trans hB2⟩⟩
    by_cases hc98 : c = 98
    · subst hc98
      have HC : Hid (escQ r = ([8], 2, 0)) := Lib.hid (by rw [hq]; rfl)
      clear hq hN0
      go_enter Tryz.func64, Tryz.ntmps64
      go_wp2_with fail
      refine (hN _ h).mono ?_
      rintro e w1 ⟨rfl, hR1, hb1, hB1⟩
      go_wp2_with fail
      refine (rWB w1 g s _ l 8 _ (by first | rfl | decide) (by omega) hR1 (by omega)).mono ?_
      rintro e w2 ⟨rfl, hR2, hb2, hB2⟩
      go_wp2
      go_end0
      exact .inl ⟨by rw [HC.out], by rw [HC.out]; exact ⟨rfl, hR2, hb1.trans hb2, hB1.trans hB2⟩⟩
    by_cases hc102 : c = 102
    · subst hc102
      have HC : Hid (escQ r = ([12], 2, 0)) := Lib.hid (by rw [hq]; rfl)
      clear hq hN0
      go_enter Tryz.func64, Tryz.ntmps64
      go_wp2_with fail
      refine (hN _ h).mono ?_
      rintro e w1 ⟨rfl, hR1, hb1, hB1⟩
      go_wp2_with fail
      refine (rWB w1 g s _ l 12 _ (by first | rfl | decide) (by omega) hR1 (by omega)).mono ?_
      rintro e w2 ⟨rfl, hR2, hb2, hB2⟩
      go_wp2
      go_end0
      exact .inl ⟨by rw [HC.out], by rw [HC.out]; exact ⟨rfl, hR2, hb1.trans hb2, hB1.trans hB2⟩⟩
    by_cases hc110 : c = 110
    · subst hc110
      have HC : Hid (escQ r = ([10], 2, 0)) := Lib.hid (by rw [hq]; rfl)
      clear hq hN0
      go_enter Tryz.func64, Tryz.ntmps64
      go_wp2_with fail
      refine (hN _ h).mono ?_
      rintro e w1 ⟨rfl, hR1, hb1, hB1⟩
      go_wp2_with fail
      refine (rWB w1 g s _ l 10 _ (by first | rfl | decide) (by omega) hR1 (by omega)).mono ?_
      rintro e w2 ⟨rfl, hR2, hb2, hB2⟩
      go_wp2
      go_end0
      exact .inl ⟨by rw [HC.out], by rw [HC.out]; exact ⟨rfl, hR2, hb1.trans hb2, hB1.trans hB2⟩⟩
    by_cases hc114 : c = 114
    · subst hc114
      have HC : Hid (escQ r = ([13], 2, 0)) := Lib.hid (by rw [hq]; rfl)
      clear hq hN0
      go_enter Tryz.func64, Tryz.ntmps64
      go_wp2_with fail
      refine (hN _ h).mono ?_
      rintro e w1 ⟨rfl, hR1, hb1, hB1⟩
      go_wp2_with fail
      refine (rWB w1 g s _ l 13 _ (by first | rfl | decide) (by omega) hR1 (by omega)).mono ?_
      rintro e w2 ⟨rfl, hR2, hb2, hB2⟩
      go_wp2
      go_end0
      exact .inl ⟨by rw [HC.out], by rw [HC.out]; exact ⟨rfl, hR2, hb1.trans hb2, hB1.trans hB2⟩⟩
    by_cases hc116 : c = 116
    · subst hc116
      have HC : Hid (escQ r = ([9], 2, 0)) := Lib.hid (by rw [hq]; rfl)
      clear hq hN0
      go_enter Tryz.func64, Tryz.ntmps64
      go_wp2_with fail
      refine (hN _ h).mono ?_
      rintro e w1 ⟨rfl, hR1, hb1, hB1⟩
      go_wp2_with fail
      refine (rWB w1 g s _ l 9 _ (by first | rfl | decide) (by omega) hR1 (by omega)).mono ?_
      rintro e w2 ⟨rfl, hR2, hb2, hB2⟩
      go_wp2
      go_end0
      exact .inl ⟨by rw [HC.out], by rw [HC.out]; exact ⟨rfl, hR2, hb1.trans hb2, hB1.trans hB2⟩⟩
    have hno : escB c = none := by
      unfold escB
      rw [if_neg (by omega), if_neg hc98, if_neg hc102, if_neg hc110, if_neg hc114, if_neg hc116]
    by_cases hc117 : c = 117
    · subst hc117
      obtain ⟨hd1, hd2⟩ := drop_cons hN0
      rw [bs_length] at hd2
      have hnum := fun W h => number_any W g s k l h (by omega) hs hl
      rw [show (bs s).drop (k + 2) = t from hd1] at hnum
      have HC : Hid (escQ r = codedQ t) := Lib.hid (by rw [hq]; rfl)
      clear hq hN0 hno hd1 hc34 hc92 hc47 hc98 hc102 hc110 hc114 hc116
      go_enter Tryz.func64, Tryz.ntmps64
      go_wp2_with fail
      refine (hN _ h).mono ?_
      rintro e w1 ⟨rfl, hR1, hb1, hB1⟩
      go_wp2_with fail
      refine (hnum _ hR1).mono ?_
      rintro e w2 (⟨h0, rfl, hR2, hb2, hB2⟩ | ⟨h0, rfl, hb2⟩)
      · have H0 := Lib.hid h0
        clear h0
        go_wp2
        go_end0
        exact .inl ⟨by rw [HC.out]; exact H0.out, by rw [HC.out]; exact ⟨rfl, hR2, hb1.trans hb2, hB1.trans hB2⟩⟩
      · have H0 := Lib.hid h0
        clear h0
        go_wp2
        exact ⟨rfl, .inr ⟨by rw [HC.out]; exact H0.out, by rw [HC.out]; exact ⟨rfl, hb1.trans hb2⟩⟩⟩
    · have HC : Hid (escQ r = errR 3) := Lib.hid (by rw [hq]; simp only [escQ, hno, if_neg hc117])
      have b1 : ((c : Int) == 34) = false := by rw [beq_eq_false_iff_ne]; omega
      have b2 : ((c : Int) == 92) = false := by rw [beq_eq_false_iff_ne]; omega
      have b3 : ((c : Int) == 47) = false := by rw [beq_eq_false_iff_ne]; omega
      have b4 : ((c : Int) == 98) = false := by rw [beq_eq_false_iff_ne]; omega
      have b5 : ((c : Int) == 102) = false := by rw [beq_eq_false_iff_ne]; omega
      have b6 : ((c : Int) == 110) = false := by rw [beq_eq_false_iff_ne]; omega
      have b7 : ((c : Int) == 114) = false := by rw [beq_eq_false_iff_ne]; omega
      have b8 : ((c : Int) == 116) = false := by rw [beq_eq_false_iff_ne]; omega
      have b9 : ((c : Int) == 117) = false := by rw [beq_eq_false_iff_ne]; omega
      clear hq hN0 hno hc34 hc92 hc47 hc98 hc102 hc110 hc114 hc116 hc117
      go_enter Tryz.func64, Tryz.ntmps64
      go_wp2_with fail
      refine (hN _ h).mono ?_
      rintro e w1 ⟨rfl, hR1, hb1, hB1⟩
      go_wp2_with fail
      refine (fail_any 3 _).mono ?_
      rintro e w2 ⟨rfl, rfl⟩
      go_wp2
      exact ⟨rfl, .inr ⟨by rw [HC.out]; simp [errR], by rw [HC.out]; rfl, hb1⟩⟩
end Go.Proofs.YthmmgpbojbjihaaGreatDoor

/- The walks of the reference's Put and guess (layer 2). -/
namespace Go.Proofs.YthmmgpbojbjihaaGreatDoor
open Go.RowKit Go.Tab

def leadOf (n : Nat) : Int := if n = 0 then 0 else if n = 1 then 192 else if n = 2 then 224 else 240
def guessG : List Nat → Int → Int
  | [], c => c
  | b :: r, c => guessG r (c * 64 + b - 128)
def guessN : List Nat → Int
  | [] => 0
  | a :: r => guessG r (a - leadOf r.length)

theorem guess_put {c : Nat} (h : isSc c = true) : guessN (putN c) = c := by
  rw [isSc_iff] at h
  unfold putN
  by_cases h1 : c < 128
  · simp [h1, guessN, guessG, leadOf]
  by_cases h2 : c < 2048
  · rw [if_neg h1, if_pos h2]
    show (((192 + c / 64 : Nat) : Int) - 192) * 64 + ((128 + c % 64 : Nat) : Int) - 128 = c
    omega
  by_cases h3 : c < 65536
  · rw [if_neg h1, if_neg h2, if_pos h3]
    show ((((224 + c / 4096 : Nat) : Int) - 224) * 64 + ((128 + c / 64 % 64 : Nat) : Int) - 128) * 64 + ((128 + c % 64 : Nat) : Int) - 128 = c
    omega
  · rw [if_neg h1, if_neg h2, if_neg h3]
    show (((((240 + c / 262144 : Nat) : Int) - 240) * 64 + ((128 + c / 4096 % 64 : Nat) : Int) - 128) * 64 + ((128 + c / 64 % 64 : Nat) : Int) - 128) * 64 + ((128 + c % 64 : Nat) : Int) - 128 = c
    omega

/-- What so many bytes would be is a scalar, written so, just if it is told. -/
theorem guess_yes {l : List Nat} (hl : ∀ x ∈ l, x < 256) {n : Nat} (h1 : 1 ≤ n) (h2 : n ≤ l.length) : ((oneN l).2 = n) ↔ (isScI (guessN (l.take n)) = true ∧ putN (guessN (l.take n)).toNat = l.take n) := by
  constructor
  · intro h
    obtain ⟨c, m, h3⟩ : ∃ c m, oneN l = (c, m) := ⟨_, _, rfl⟩
    rw [h3] at h
    simp only at h
    subst h
    obtain ⟨g1, g2, g3, g4⟩ := put_oneN hl h3 (by omega)
    have hg : guessN (l.take m) = c := by rw [← g3]; exact guess_put g1
    rw [hg, isScI_nat]
    exact ⟨g1, by simpa using g3⟩
  · rintro ⟨g1, g2⟩
    obtain ⟨c, hc⟩ : ∃ c : Nat, guessN (l.take n) = c := by
      refine ⟨(guessN (l.take n)).toNat, ?_⟩
      unfold isScI at g1
      simp at g1
      omega
    rw [hc] at g1 g2
    rw [isScI_nat] at g1
    simp only [Int.toNat_natCast] at g2
    have hw : wid c = n := by rw [← putN_len, g2]; simp; omega
    have := oneN_put g1 (l.drop n)
    rw [g2, List.take_append_drop] at this
    rw [this, hw]
theorem guess_is {l : List Nat} (hl : ∀ x ∈ l, x < 256) {n : Nat} (h1 : 1 ≤ n) (h : (oneN l).2 = n) : guessN (l.take n) = (oneN l).1 := by
  obtain ⟨c, m, h3⟩ : ∃ c m, oneN l = (c, m) := ⟨_, _, rfl⟩
  rw [h3] at h ⊢
  simp only at h ⊢
  subst h
  obtain ⟨g1, g2, g3, g4⟩ := put_oneN hl h3 (by omega)
  rw [← g3]; exact guess_put g1

def rputL (c : Int) : List UInt8 := if isScI c then putU c.toNat else []

end Go.Proofs.YthmmgpbojbjihaaGreatDoor

/- The walks of the reference's guess and One (layer 2). -/
namespace Go.Proofs.YthmmgpbojbjihaaGreatDoor
open Go.RowKit Go.Tab

theorem bs_inj {a b : ByteArray} (h : bs a = bs b) : a = b := by
  have h1 : a.data.toList = b.data.toList := by
    unfold bs at h
    exact (List.map_inj_right (fun _ _ => UInt8.toNat_inj.1)).1 h
  exact ByteArray.ext (Array.toList_inj.1 h1)
theorem toList_iff {a b : ByteArray} : (a.toList == b.toList) = true ↔ a = b := by
  constructor
  · intro h
    have h1 := beq_iff_eq.1 h
    rw [ByteArray.toList_eq, ByteArray.toList_eq] at h1
    exact ByteArray.ext (Array.toList_inj.1 h1)
  · rintro rfl; simp
theorem bs_extract (s : ByteArray) (i j : Nat) : bs (s.extract i j) = ((bs s).take j).drop i := by
  unfold bs
  rw [ByteArray.data_extract, Array.toList_extract, List.extract_eq_drop_take', ← List.map_take, ← List.map_drop]
theorem bs_strOf (l : List UInt8) : bs (strOf l) = l.map UInt8.toNat := by simp [bs, strOf]
theorem putN_lt {c : Nat} (h : c ≤ 1114111) : ∀ x ∈ putN c, x < 256 := by
  intro x hx
  unfold putN at hx
  split at hx
  · simp at hx; omega
  split at hx
  · simp at hx; omega
  split at hx
  · simp at hx; omega
  · simp at hx; omega
theorem bs_putU {c : Nat} (h : isSc c = true) : bs (strOf (putU c)) = putN c := by
  rw [isSc_iff] at h
  have hp := putN_lt h.1
  rw [bs_strOf]
  unfold putU
  rw [List.map_map]
  conv => rhs; rw [← List.map_id (putN c)]
  apply List.map_congr_left
  intro x hx
  have := hp x hx
  simp [UInt8.toNat_ofNat']
  omega
/-- The text of a guess is these bytes just if it is told. -/
theorem guess_text {s : ByteArray} {i k : Nat} (h1 : 1 ≤ k) (h2 : i + k ≤ s.size) :
    (strOf (rputL (guessN (((bs s).drop i).take k))) = s.extract i (i + k)) ↔ (oneN ((bs s).drop i)).2 = k := by
  have hl : ∀ x ∈ (bs s).drop i, x < 256 := fun x hx => bs_lt x (List.mem_of_mem_drop hx)
  have hlen : k ≤ ((bs s).drop i).length := by simp [bs_length]; omega
  have hex : bs (s.extract i (i + k)) = ((bs s).drop i).take k := by
    rw [bs_extract, List.drop_take]; congr 1; omega
  rw [guess_yes hl h1 hlen]
  generalize guessN (((bs s).drop i).take k) = g
  constructor
  · intro h
    have h3 := congrArg bs h
    rw [hex] at h3
    unfold rputL at h3
    cases hg : isScI g with
    | false =>
      rw [hg] at h3
      have := congrArg List.length h3
      simp [bs_strOf, bs_length] at this
      omega
    | true =>
      obtain ⟨n, rfl⟩ : ∃ n : Nat, g = n := ⟨g.toNat, by unfold isScI at hg; simp at hg; omega⟩
      rw [hg] at h3
      rw [isScI_nat] at hg
      simp only [if_true, Int.toNat_natCast] at h3 ⊢
      rw [bs_putU hg] at h3
      exact ⟨trivial, h3⟩
  · rintro ⟨hg, h3⟩
    apply bs_inj
    rw [hex, ← h3]
    unfold rputL
    rw [hg]
    obtain ⟨n, rfl⟩ : ∃ n : Nat, g = n := ⟨g.toNat, by unfold isScI at hg; simp at hg; omega⟩
    rw [isScI_nat] at hg
    simp only [if_true, Int.toNat_natCast]
    exact bs_putU hg

end Go.Proofs.YthmmgpbojbjihaaGreatDoor

/- The walks of the reference's Bad, Valid and All (layer 2). -/
namespace Go.Proofs.YthmmgpbojbjihaaGreatDoor
open Go.RowKit Go.Tab

end Go.Proofs.YthmmgpbojbjihaaGreatDoor

/- The iterator utf.All (layer 2). -/
namespace Go.Proofs.YthmmgpbojbjihaaGreatDoor
open Go.RowKit Go.Tab Go.Shelf
attribute [local go_sem] Oper.semAt_some

set_option maxHeartbeats 800000 in
set_option maxRecDepth 100000 in
theorem uAll_any (s : ByteArray) (w : World) :
    Calls Tryz.prog 71 #[.string s] w fun e w' => e = .returned (.func (.func 94) #[] #[.pointer (some ⟨w.heap.size, 0, none⟩)]) ∧ w' = w.alloc (.cells #[.string s] 9) := by
  go_enter Tryz.func71, Tryz.ntmps71
  go_wp2
  go_ret
  exact ⟨rfl, rfl⟩

/-- The table's block and the text's box lie as they lay. -/
def TwoKept (g : Nat) (A B : World) : Prop := A.heap.size ≤ B.heap.size ∧ B.heap[3]? = A.heap[3]? ∧ B.heap[g]? = A.heap[g]?
theorem TwoKept.refl (g : Nat) (A : World) : TwoKept g A A := ⟨Nat.le_refl _, rfl, rfl⟩
theorem TwoKept.trans {g : Nat} {A B C : World} (h : TwoKept g A B) (h2 : TwoKept g B C) : TwoKept g A C := ⟨Nat.le_trans h.1 h2.1, h2.2.1.trans h.2.1, h2.2.2.trans h.2.2⟩
theorem TwoKept.tab {g : Nat} {A B : World} (h : TwoKept g A B) (hT : Tab A) : Tab B := fun j hj => (World.cell?_of_block h.2.1).trans (hT j hj)
theorem TwoKept.box {g : Nat} {A B : World} (h : TwoKept g A B) {v : Value} (hc : A.cell? ⟨g, 0, none⟩ = some v) : B.cell? ⟨g, 0, none⟩ = some v := (World.cell?_of_block h.2.2).trans hc

set_option maxHeartbeats 800000 in
set_option maxRecDepth 100000 in
theorem uAll1_in (n : Nat) (hn : 2 ≤ n) (l0 Bn : Nat) (s : ByteArray) (hs : s.size ≤ 1000000) (J Jx : List (Nat × Nat) → World → Prop)
    (hY : ∀ pre x W, J pre W → pre.length < (scan (bs s) 0).1.length → YieldAt Fence.wide (n - 1) Tryz.prog l0 #[.int .i64 (x.1 : Nat), .int .i64 (x.2 : Nat)] W fun e W' =>
      (e = .returned (.bool true) ∧ J (pre ++ [x]) W' ∧ TwoKept Bn W W') ∨ (e = .returned (.bool false) ∧ Jx (pre ++ [x]) W'))
    (W : World) (hBn : W.cell? ⟨Bn, 0, none⟩ = some (.string s)) (hT : Tab W) (h0 : J [] W) :
    CallsIn Fence.wide n Tryz.prog 94 #[.func (.yield l0) #[] #[], .pointer (some ⟨Bn, 0, none⟩)] W fun e W' => (∃ v, e = .returned v) ∧
      ((∃ ys, ys = (scan (bs s) 0).1 ∧ J ys W') ∨ (∃ pre, pre <+: (scan (bs s) 0).1 ∧ Jx pre W')) := by
  refine callsIn_of_wp Tryz.func94 rfl trivial ?_ rfl
  simp only [Tryz.ntmps94, List.size_toArray, List.length_cons, List.length_nil, Nat.reduceAdd, Nat.reduceSub, Array.replicate_succ, Array.replicate_zero, List.push_toArray, List.append_toArray, List.nil_append, List.cons_append]
  gi_wp2
  gi_loopw [3] (fun i wr => ∃ (k : Nat) (pre : List (Nat × Nat)), i = .int .i64 k ∧ k ≤ s.size ∧ Rest (bs s) k pre ∧ J pre wr ∧ TwoKept Bn W wr)
    (fun i wr => s.size - (intOf i).toNat)
  case atStart => exact ⟨0, [], rfl, Nat.zero_le _, Rest.zero _, h0, TwoKept.refl _ _⟩
  case round =>
    obtain ⟨k, pre, rfl, hk, hr, hJ, hb⟩ := hrel
    have HR := Lib.hid hr
    have hbx := hb.box hBn
    have hTr := hb.tab hT
    clear hr
    by_cases h : k < s.size
    · obtain ⟨c, m, h1⟩ : ∃ c m, oneN ((bs s).drop k) = (c, m) := ⟨_, _, rfl⟩
      have hle := (oneN_le ((bs s).drop k) (fun x hx => bs_lt x (List.mem_of_mem_drop hx))).1
      have hF := first_any s k wr hTr (by omega)
      unfold firstPost at hF
      rw [h1] at hF hle
      simp only [List.length_drop, bs_length] at hle
      have H1 := Lib.hid h1
      have HF := Lib.hid hF
      clear h1 hF
      by_cases hm : m = 0
      · subst hm
        have h2 := Lib.hid (HR.out.bad (by rw [bs_length]; exact h) (by rw [H1.out]))
        clear hY
        gi_wp2
        refine ⟨trivial, fun _ => by omega, ?_⟩
        refine (callsIn_wide.2 HF.out).mono ?_
        rintro e w9 ⟨rfl, rfl⟩
        clear HF
        gi_wp2
        refine ⟨fun _ h => (by cases h), ?_⟩
        gi_wp2
        refine bodyPost_ret (results_none rfl _ _ _) rfl ?_
        exact ⟨⟨_, rfl⟩, .inl ⟨pre, by rw [h2.out], hJ⟩⟩
      · have h2 := Lib.hid (HR.out.good (by rw [bs_length]; exact h) H1.out hm)
        have hbn : ((m : Int) == 0) = false := by rw [beq_eq_false_iff_ne]; omega
        have hm1 : 1 ≤ m := by omega
        have hlt : pre.length < (scan (bs s) 0).1.length := by rw [h2.out]; simp
        obtain ⟨fn, tmps, assign, body, hy, hR⟩ := hY pre (k, c) wr hJ hlt
        have hpre : Hid (pre ++ [(k, c)] <+: (scan (bs s) 0).1) := Lib.hid ⟨(scan ((bs s).drop (k + m)) (k + m)).1, by rw [h2.out]⟩
        clear hm hY
        gi_wp2
        refine ⟨trivial, fun _ => by omega, ?_⟩
        refine (callsIn_wide.2 HF.out).mono ?_
        rintro e w9 ⟨rfl, rfl⟩
        clear HF
        gi_wp2
        refine ⟨fun _ => by omega, hR.mono ?_⟩
        rintro e W3 (⟨rfl, hJ3, hk3⟩ | ⟨rfl, hJx3⟩)
        · gi_wp2
          refine ⟨⟨k + m, pre ++ [(k, c)], by go_num, by omega, h2.out, hJ3, hb.trans hk3⟩, ?_⟩
          simp [intOf]; omega
        · gi_wp2
          refine bodyPost_ret (results_none rfl _ _ _) rfl ?_
          exact ⟨⟨_, rfl⟩, .inr ⟨_, hpre.out, hJx3⟩⟩
    · have h2 := Lib.hid (HR.out.done (by rw [bs_length]; omega))
      clear hY
      gi_wp2
      refine bodyPost_end (results_none rfl _ _ _) rfl ?_
      exact ⟨⟨_, rfl⟩, .inl ⟨pre, by rw [h2.out], hJ⟩⟩
end Go.Proofs.YthmmgpbojbjihaaGreatDoor

/- The walk of a scalar that is written as it is (layer 7). -/
namespace Go.Proofs.YthmmgpbojbjihaaGreatDoor
open Go.RowKit Go.Tab Go.Shelf
attribute [local go_sem] Oper.semAt_some

/-- The first four bytes tell which scalar there is. -/
theorem oneN_take4 (l : List Nat) : oneN (l.take 4) = oneN l := by
  match l with
  | [] => rfl
  | [_] => rfl
  | [_, _] => rfl
  | [_, _, _] => rfl
  | [_, _, _, _] => rfl
  | a :: b :: c :: d :: e :: r => rfl

/-- A method that hands v back; .. -/
def OkW (g : Nat) (s : ByteArray) (w : World) (v : Value) (k' : Nat) (l' : List UInt8) (e : Ending) (w' : World) : Prop :=
  e = .returned v ∧ RdrAt w' g s k' l' ∧ Below g w w'
/-- What scalar does at a place where the bytes L stand. -/
def ScalP (g : Nat) (s : ByteArray) (w : World) (k : Nat) (l : List UInt8) (L : List Nat) (e : Ending) (w' : World) : Prop :=
  ((oneN L).2 ≠ 0 ∧ OkW g s w (.tuple #[]) (k + (oneN L).2) (l ++ un (L.take (oneN L).2)) e w') ∨ ((oneN L).2 = 0 ∧ BadR g w 7 e w')

theorem extract_bs (s : ByteArray) (a b : Nat) : bs (s.extract a b) = ((bs s).drop a).take (b - a) := by
  simp [bs, List.map_drop, List.map_take, List.drop_take]

/-- What Put hands back. -/
def putX (c : Nat) : List UInt8 := if isSc c then putU c else []
theorem putX_len (c : Nat) : (putX c).length ≤ 4 := by
  unfold putX
  split
  · rw [putU_length]; exact (wid_pos c).2
  · simp
theorem PutX_any (c : Nat) (w : World) : Calls Tryz.prog 90 #[.int .i64 c] w fun e w' => e = .returned (.tuple #[.string (strOf (putX c)), .bool (isSc c)]) ∧ Below w.heap.size w w' := by
  unfold putX
  cases h : isSc c with
  | true =>
    refine (Put_any c w h).mono ?_
    rintro e w' ⟨rfl, hb⟩
    exact ⟨by simp, hb⟩
  | false =>
    refine (Put_none (c : Int) w (by rw [isScI_nat]; exact h)).mono ?_
    rintro e w' ⟨rfl, rfl⟩
    exact ⟨rfl, Below.refl _ _⟩

theorem RdrAt.kept {w w' : World} {g : Nat} {s : ByteArray} {k : Nat} {l : List UInt8} {row : Option Nat} (h : RdrAt w g s k l) (hg : w.grownBy w' row) (hr : ∀ r, row = some r → ∃ o : Obj, w.heap[r]? = some o ∧ o.isCells = false) : RdrAt w' g s k l := by
  obtain ⟨cs, ⟨h1, h2, v, h3, h4⟩, h5⟩ := h
  have hrow : v.ownBlock = none ∨ v.ownBlock ≠ row := by
    cases hv : v.ownBlock with
    | none => exact .inl rfl
    | some b =>
      refine .inr fun e => ?_
      obtain ⟨o, ho, hc⟩ := hr _ e.symm
      obtain ⟨cs', fr, hb⟩ := own_is_row h4 b hv
      rw [hb] at ho; cases ho; cases hc
  refine ⟨cs, ⟨h1.kept hg ?_, h2, v, h3, h4.kept hg hrow⟩, h5⟩
  intro e
  obtain ⟨o, ho, hc⟩ := hr _ e.symm
  rw [show w.heap[g]? = _ from h1] at ho; cases ho; cases hc
theorem keeps_beside {E : TypeId} {B g : Nat} {w w' : World} {cs : Array Value} {t : TypeId} (h : Beside E g w w') (hg : Cells w g cs t) : KeepsFrom B w w' :=
  ⟨h.1, fun k o _ hk ho => h.2 k o (by rintro rfl; rw [show w.heap[k]? = _ from hg] at hk; cases hk; cases ho) hk (fun cs' fr e => by subst e; cases ho)⟩

/-- Between two rounds: nothing has come. -/
def ScI (w : World) (g : Nat) (s : ByteArray) (k : Nat) (l : List UInt8) (pre : List (Nat × Nat)) (W : World) : Prop :=
  (pre = [] ∧ RdrAt W g s k l ∧ Cells W w.heap.size #[.pointer (some ⟨g, 0, none⟩)] 82) ∧ Below g w W
def ScX (w : World) (g : Nat) (s : ByteArray) (k : Nat) (l : List UInt8) (c : Code) (pre : List (Nat × Nat)) (W : World) : Prop :=
  (c = .ret ∧ ∃ x : Nat × Nat, pre = [x] ∧ RdrAt W g s (k + (putX x.2).length) (l ++ putX x.2)) ∧ Below g w W
theorem ScI_own (w : World) (g : Nat) (s : ByteArray) (k : Nat) (l : List UInt8) (L : Nat) (hg : g ≤ w.heap.size) (hL : g ≤ L) : OwnFrom L (ScI w g s k l) :=
  OwnFrom.and (Own.from (fun pre A B row hs hg' hr => ⟨hs.1, hs.2.1.kept hg' hr, hs.2.2.kept hg' (fun e' => by
    obtain ⟨o, ho, hc⟩ := hr _ e'.symm
    rw [show A.heap[w.heap.size]? = _ from hs.2.2] at ho; cases ho; cases hc)⟩) _) (ownFrom_below hg hL)
theorem ScX_own (w : World) (g : Nat) (s : ByteArray) (k : Nat) (l : List UInt8) (L : Nat) (hg : g ≤ w.heap.size) (hL : g ≤ L) (c : Code) : OwnFrom L (ScX w g s k l c) :=
  OwnFrom.and (Own.from (fun pre A B row hs hg' hr => by
    obtain ⟨h1, x, h2, h3⟩ := hs
    exact ⟨h1, x, h2, h3.kept hg' hr⟩) _) (ownFrom_below hg hL)

theorem TwoKept.put (g : Nat) (w : World) (h0 : 3 < w.heap.size) (hg : g < w.heap.size) (W : World) (l : Nat) (o o' : Obj) (hl : w.heap.size ≤ l) (_ : W.heap[l]? = some o) (_ : o.isCells = false) (_ : o.isWalk = false) : TwoKept g W (W.putObj l o') :=
  ⟨(grownBy_putObj' W l o').size, World.putObj_heap_other (by omega), World.putObj_heap_other (by omega)⟩
theorem uAll_stops (n : Nat) (hn : 2 ≤ n) (Bn : Nat) (s : ByteArray) (hs : s.size ≤ 1000000) (w : World) (hBn : Bn < w.heap.size)
    (hc : w.cell? ⟨Bn, 0, none⟩ = some (.string s)) (hT : Tab w) :
    SeqStopsK Fence.wide n Tryz.prog 94 #[.pointer (some ⟨Bn, 0, none⟩)] (fun x : Nat × Nat => #[.int .i64 (x.1 : Nat), .int .i64 (x.2 : Nat)]) (TwoKept Bn) (fun ys => ys = (scan (bs s) 0).1) (fun pre => pre <+: (scan (bs s) 0).1) (scan (bs s) 0).1.length w := fun l0 J Jx W hW _ _ hY h0 =>
  uAll1_in n hn l0 Bn s hs J Jx hY W ((hW.cell (p := ⟨Bn, 0, none⟩) hBn).trans hc) (hT.below hW hT.pos) h0


set_option maxHeartbeats 4000000 in
set_option maxRecDepth 100000 in
theorem scalar_any (w : World) (g : Nat) (s : ByteArray) (k : Nat) (l : List UInt8) (h : RdrAt w g s k l) (hk : k < s.size) (hs : s.size ≤ 1000000) (hl : l.length ≤ 9000000) (hT : Tab w) :
    Calls Tryz.prog 66 #[.pointer (some ⟨g, 0, none⟩)] w (ScalP g s w k l ((bs s).drop k)) := by
  refine (callsIn_wide (n := 9)).1 ?_
  have hR0 := h.below ((Below.refl _ w).alloc (Nat.le_refl _) (.cells #[.pointer (some ⟨g, 0, none⟩)] 82))
  have hlt := h.lt
  obtain ⟨cs, hb, h5, h6, h7⟩ := id hR0
  have c0 := hb.cells.cell 0 _ h6
  have c1 := hb.cells.cell 1 _ h7
  have c9 := (Cells.new w #[.pointer (some ⟨g, 0, none⟩)] 82).cell 0 _ rfl
  clear hb h5 h6 h7
  by_cases hk4 : k + 4 ≤ s.size
  · have hmin : min ((k : Int) + 4) (s.size : Int) = (k : Int) + 4 := by omega
    obtain ⟨R, hR⟩ : ∃ R, R = s.extract k ((k : Int) + 4).toNat := ⟨_, rfl⟩
    refine callsIn_of_wp_marks Tryz.func66 rfl trivial ?_ rfl
    simp only [Tryz.ntmps66, List.size_toArray, List.length_cons, List.length_nil, Nat.reduceAdd, Nat.reduceSub, Array.replicate_succ, Array.replicate_zero, List.push_toArray, List.append_toArray, List.nil_append, List.cons_append]
    have hRr := Lib.hid hR
    have hsl : s.extract k ((k : Int) + 4).toNat = R := hR.symm
    gi_wp2
    have hRb : bs R = ((bs s).drop k).take 4 := by rw [hR, extract_bs]; congr 1; omega
    have hRne : bs R ≠ [] := by rw [hRb]; intro h0; have := congrArg List.length h0; simp [bs_length] at this; omega
    clear hR
    gi_quiet (fail)
    have hw0 : ∃ w0, w0 = (w.alloc (.cells #[.pointer (some ⟨g, 0, none⟩)] 82)).drewN nq := ⟨_, rfl⟩
    obtain ⟨w0, hw0⟩ := hw0
    rw [← hw0]
    have hR1 : RdrAt w0 g s k l := by rw [hw0]; exact hR0.drewN _
    have hC1 : Cells w0 w.heap.size #[.pointer (some ⟨g, 0, none⟩)] 82 := by rw [hw0]; exact (Cells.new w _ _).drewN _
    have hb1 : Below w.heap.size w w0 := by rw [hw0]; exact Below.drewN' ((Below.refl _ w).alloc (Nat.le_refl _) _) _
    have hz0 : w0.heap.size = w.heap.size + 1 := by rw [hw0]; simp
    have HA := Lib.hid (uAll_any R w0)
    have HZ := Lib.hid hz0
    clear c0 c1 c9 hw0 hmin hz0
    gi_wp2
    refine ⟨trivial, (callsIn_wide.2 HA.out).mono ?_⟩
    rintro e w1 ⟨rfl, hw1⟩
    clear HA
    have hz0 := HZ.out
    have hz1 : w1.heap.size = w.heap.size + 2 := by rw [hw1]; simp [hz0]
    have hb2' : Below w0.heap.size w0 w1 := by rw [hw1]; exact (Below.refl _ _).alloc (Nat.le_refl _) _
    have hcB : w1.cell? ⟨w.heap.size + 1, 0, none⟩ = some (.string R) := by
      have h := World.cell?_alloc_new (w := w0) #[.string R] 9 0
      rw [hz0] at h
      rw [hw1]; exact h
    have hR2 := hR1.below hb2'
    have hC2 := hC1.below hb2' hC1.lt
    have hb2 : Below w.heap.size w w1 := hb1.trans (hb2'.mono (by omega))
    have hT1 := hT.below hb2 hT.pos
    have h0w := hT.pos
    rw [hz0]
    clear hw1 hb2' hR1 hC1 hb1 hz0
    have hneq : Sem.run Tryz.prog (binOp .neq 120 (Value.func (Fn.func 94) #[] #[Value.pointer (some { block := w.heap.size + 1, off := 0 })]) Value.nilFunc) w1 = .ok (.bool true) w1 := by rfl
    gi_wp2
    have hwL : g ≤ w1.heap.size := by omega
    refine wpIn_rangeFunc_ownG rfl (by omega) (gf := 94) (lb := #[.pointer (some ⟨w.heap.size + 1, 0, none⟩)]) rfl trivial (enters_of Tryz.func94 (by kernel_rfl) rfl)
      (uAll_stops 8 (by omega) (w.heap.size + 1) R (by rw [← bs_length, hRb]; simp; omega) w1 (by omega) hcB hT1) TwoKept.trans (TwoKept.put (w.heap.size + 1) w1 (by omega) (by omega)) (Below.refl _ _) (fun _ => rfl)
      (ScI w g s k l) (ScX w g s k l) (ScI_own w g s k l _ (by omega) hwL) (ScX_own w g s k l _ (by omega) hwL)
      ⟨⟨rfl, hR2, hC2⟩, hb2.mono (by omega)⟩
      (fun x => { tmps := #[.pointer (some ⟨g, 0, none⟩), .pointer (some ⟨w.heap.size, 0, none⟩), .string R, undef, .int .i64 (x.2 : Nat), undef, undef, .pointer (some ⟨g, 0, none⟩), .pointer (some ⟨g, 0, none⟩), .pointer (some ⟨g, 0, none⟩), .string s, .pointer (some ⟨g, 0, none⟩), .pointer (some ⟨g, 0, none⟩), .pointer (some ⟨g, 1, none⟩), .int .i64 (k : Int), .pointer (some ⟨g, 0, none⟩), .pointer (some ⟨g, 0, none⟩), .pointer (some ⟨g, 1, none⟩), .int .i64 (k : Int), .int .i64 ((k : Int) + 4), .pointer (some ⟨g, 0, none⟩), .pointer (some ⟨g, 0, none⟩), .pointer (some ⟨g, 0, none⟩), .string s, .int .i64 (s.size : Int), .int .i64 ((k : Int) + 4), .string R, .string R, .func (.func 94) #[] #[.pointer (some ⟨w.heap.size + 1, 0, none⟩)], .int .i64 (x.1 : Nat), .int .i64 (x.2 : Nat), undef, undef, undef, undef, undef, undef, undef, undef, undef, undef, undef, undef, undef, undef, undef, undef, undef, undef, undef, undef], defers := [] }) ?assign ?body ?done ?stop
    case assign =>
      intro l x W K hK
      gi_wp2
      exact hK
    case body =>
      rintro l0 pre x W ⟨⟨rfl, hRW, hCW⟩, hbW⟩ -
      have hltW := hRW.lt
      have hPX := PutX_any x.2 W
      have hplen := putX_len x.2
      have hpsz : (strOf (putX x.2)).size = (putX x.2).length := strOf_size _
      generalize hpx : putX x.2 = px at *
      have HPX := Lib.hid hpx
      have HPS := Lib.hid hpsz
      clear hpx hpsz
      have hcw := hCW.cell 0 _ rfl
      gi_wp2
      refine ⟨trivial, (CallsIn.inRound l0 (callsIn_wide.2 hPX)).mono ?_⟩
      rintro e w3 ⟨rfl, hb3⟩
      have hz3 := hb3.size
      have hR3 := hRW.below hb3
      have hC3 := hCW.below hb3 hCW.lt
      have hcw3 := hC3.cell 0 _ rfl
      have hWS := rWS w3 g s k l (strOf px) hR3 (by rw [HPS.out]; omega)
      gi_wp2
      refine ⟨trivial, (CallsIn.inRound l0 (callsIn_wide.2 hWS)).mono ?_⟩
      rintro e w4 ⟨rfl, hR4, hb4, hB4⟩
      obtain ⟨cs4, hb4', h54, h64, h74⟩ := id hR4
      have c14 := hb4'.cells.cell 1 _ h74
      have f14 := hb4'.cells.frozen 1
      have hC4 := hB4.cells hC3 (by omega) (by decide)
      have hcw4 := hC4.cell 0 _ rfl
      clear hb4' h54 h64 h74
      have hR5 := hR4.moved (k + px.length)
      obtain ⟨cw, hcw', -⟩ := id hRW
      have hkeep := keeps_beside (B := w1.heap.size) (((Beside.of_below (E := 5) (g := g) hb3).trans hB4).setCell 1 (.int .i64 ((k + px.length : Nat) : Int))) hcw'.cells
      have hbW5 := ((hbW.trans (hb3.mono (by omega))).trans hb4).setCell (p := ⟨g, 1, none⟩) (Nat.le_refl _) (.int .i64 ((k + px.length : Nat) : Int))
      have hl4 := HPS.out
      gi_wp2
      exact ⟨hkeep, ⟨rfl, x, rfl, by rw [HPX.out]; exact hR5⟩, hbW5⟩
    case done =>
      rintro D ys W hD hys ⟨⟨rfl, hRW, hCW⟩, hbW⟩ hK
      have h0 : (oneN ((bs s).drop k)).2 = 0 := by
        rw [← oneN_take4, ← hRb]
        exact Decidable.byContradiction fun hn => by rw [scan_step hRne, if_neg hn] at hys; cases hys
      gi_wp2
      refine ⟨trivial, (callsIn_wide.2 (fail_any 7 W)).mono ?_⟩
      rintro e w3 ⟨rfl, rfl⟩
      gi_wp2
      refine ⟨by simp, .inl ⟨_, _, rfl, run_takeDeferred hK, ?_⟩⟩
      exact .inr ⟨h0, rfl, hbW.trans ((belowK_b (w := w) (Nat.le_refl _) W D _ _ (by omega) hK rfl rfl).mono (by omega))⟩
    case stop =>
      rintro D c pre W hD hpre ⟨⟨rfl, x, rfl, hRW⟩, hbW⟩ hK
      have hx : (oneN ((bs s).drop k)).2 ≠ 0 ∧ putX x.2 = un (((bs s).drop k).take (oneN ((bs s).drop k)).2) ∧ (putX x.2).length = (oneN ((bs s).drop k)).2 := by
        rw [← oneN_take4, ← hRb]
        have hn : (oneN (bs R)).2 ≠ 0 := fun hn => by rw [scan_bad hRne hn] at hpre; simp at hpre
        rw [scan_step hRne, if_neg hn] at hpre
        obtain ⟨t, ht⟩ := hpre
        simp only [List.cons_append, List.nil_append, List.cons.injEq] at ht
        obtain ⟨rfl, -⟩ := ht
        obtain ⟨q1, q2, q3, q4⟩ := put_oneN (l := bs R) (c := (oneN (bs R)).1) (n := (oneN (bs R)).2) bs_lt (by rfl) hn
        have e1 : putX (oneN (bs R)).1 = putU (oneN (bs R)).1 := by unfold putX; rw [if_pos q1]
        refine ⟨hn, ?_, ?_⟩
        · rw [e1]
          show un (putN _) = _
          rw [q3, hRb, List.take_take, Nat.min_eq_left (by rw [← hRb]; exact (oneN_le _ bs_lt).2)]
        · rw [e1, putU_length, q2]
      gi_wp2
      refine ⟨by simp, .inl ⟨_, _, rfl, run_takeDeferred hK, ?_⟩⟩
      refine ⟨_, results_none rfl _ _ _, .inl ⟨hx.1, rfl, ?_, ?_⟩⟩
      · have := hRW.kept (grownBy_putObj' W D (.deferred none)) (fun r e => by cases e; exact ⟨_, hK, rfl⟩)
        rw [hx.2.2, hx.2.1] at this
        exact this
      · exact hbW.trans ((belowK_b (w := w) (Nat.le_refl _) W D _ _ (by omega) hK rfl rfl).mono (by omega))
  · have hmin : min ((k : Int) + 4) (s.size : Int) = (s.size : Int) := by omega
    obtain ⟨R, hR⟩ : ∃ R, R = s.extract k s.size := ⟨_, rfl⟩
    refine callsIn_of_wp_marks Tryz.func66 rfl trivial ?_ rfl
    simp only [Tryz.ntmps66, List.size_toArray, List.length_cons, List.length_nil, Nat.reduceAdd, Nat.reduceSub, Array.replicate_succ, Array.replicate_zero, List.push_toArray, List.append_toArray, List.nil_append, List.cons_append]
    have hRr := Lib.hid hR
    have hsl : s.extract k s.size = R := hR.symm
    gi_wp2
    have hRb : bs R = ((bs s).drop k).take 4 := by rw [hR, extract_bs]; rw [List.take_of_length_le (by simp [bs_length]), List.take_of_length_le (by simp [bs_length]; omega)]
    have hRne : bs R ≠ [] := by rw [hRb]; intro h0; have := congrArg List.length h0; simp [bs_length] at this; omega
    clear hR
    gi_quiet (fail)
    have hw0 : ∃ w0, w0 = (w.alloc (.cells #[.pointer (some ⟨g, 0, none⟩)] 82)).drewN nq := ⟨_, rfl⟩
    obtain ⟨w0, hw0⟩ := hw0
    rw [← hw0]
    have hR1 : RdrAt w0 g s k l := by rw [hw0]; exact hR0.drewN _
    have hC1 : Cells w0 w.heap.size #[.pointer (some ⟨g, 0, none⟩)] 82 := by rw [hw0]; exact (Cells.new w _ _).drewN _
    have hb1 : Below w.heap.size w w0 := by rw [hw0]; exact Below.drewN' ((Below.refl _ w).alloc (Nat.le_refl _) _) _
    have hz0 : w0.heap.size = w.heap.size + 1 := by rw [hw0]; simp
    have HA := Lib.hid (uAll_any R w0)
    have HZ := Lib.hid hz0
    clear c0 c1 c9 hw0 hmin hz0
    gi_wp2
    refine ⟨trivial, (callsIn_wide.2 HA.out).mono ?_⟩
    rintro e w1 ⟨rfl, hw1⟩
    clear HA
    have hz0 := HZ.out
    have hz1 : w1.heap.size = w.heap.size + 2 := by rw [hw1]; simp [hz0]
    have hb2' : Below w0.heap.size w0 w1 := by rw [hw1]; exact (Below.refl _ _).alloc (Nat.le_refl _) _
    have hcB : w1.cell? ⟨w.heap.size + 1, 0, none⟩ = some (.string R) := by
      have h := World.cell?_alloc_new (w := w0) #[.string R] 9 0
      rw [hz0] at h
      rw [hw1]; exact h
    have hR2 := hR1.below hb2'
    have hC2 := hC1.below hb2' hC1.lt
    have hb2 : Below w.heap.size w w1 := hb1.trans (hb2'.mono (by omega))
    have hT1 := hT.below hb2 hT.pos
    have h0w := hT.pos
    rw [hz0]
    clear hw1 hb2' hR1 hC1 hb1 hz0
    have hneq : Sem.run Tryz.prog (binOp .neq 120 (Value.func (Fn.func 94) #[] #[Value.pointer (some { block := w.heap.size + 1, off := 0 })]) Value.nilFunc) w1 = .ok (.bool true) w1 := by rfl
    gi_wp2
    have hwL : g ≤ w1.heap.size := by omega
    refine wpIn_rangeFunc_ownG rfl (by omega) (gf := 94) (lb := #[.pointer (some ⟨w.heap.size + 1, 0, none⟩)]) rfl trivial (enters_of Tryz.func94 (by kernel_rfl) rfl)
      (uAll_stops 8 (by omega) (w.heap.size + 1) R (by rw [← bs_length, hRb]; simp; omega) w1 (by omega) hcB hT1) TwoKept.trans (TwoKept.put (w.heap.size + 1) w1 (by omega) (by omega)) (Below.refl _ _) (fun _ => rfl)
      (ScI w g s k l) (ScX w g s k l) (ScI_own w g s k l _ (by omega) hwL) (ScX_own w g s k l _ (by omega) hwL)
      ⟨⟨rfl, hR2, hC2⟩, hb2.mono (by omega)⟩
      (fun x => { tmps := #[.pointer (some ⟨g, 0, none⟩), .pointer (some ⟨w.heap.size, 0, none⟩), .string R, undef, .int .i64 (x.2 : Nat), undef, undef, .pointer (some ⟨g, 0, none⟩), .pointer (some ⟨g, 0, none⟩), .pointer (some ⟨g, 0, none⟩), .string s, .pointer (some ⟨g, 0, none⟩), .pointer (some ⟨g, 0, none⟩), .pointer (some ⟨g, 1, none⟩), .int .i64 (k : Int), .pointer (some ⟨g, 0, none⟩), .pointer (some ⟨g, 0, none⟩), .pointer (some ⟨g, 1, none⟩), .int .i64 (k : Int), .int .i64 ((k : Int) + 4), .pointer (some ⟨g, 0, none⟩), .pointer (some ⟨g, 0, none⟩), .pointer (some ⟨g, 0, none⟩), .string s, .int .i64 (s.size : Int), .int .i64 ((s.size : Int)), .string R, .string R, .func (.func 94) #[] #[.pointer (some ⟨w.heap.size + 1, 0, none⟩)], .int .i64 (x.1 : Nat), .int .i64 (x.2 : Nat), undef, undef, undef, undef, undef, undef, undef, undef, undef, undef, undef, undef, undef, undef, undef, undef, undef, undef, undef, undef], defers := [] }) ?assign ?body ?done ?stop
    case assign =>
      intro l x W K hK
      gi_wp2
      exact hK
    case body =>
      rintro l0 pre x W ⟨⟨rfl, hRW, hCW⟩, hbW⟩ -
      have hltW := hRW.lt
      have hPX := PutX_any x.2 W
      have hplen := putX_len x.2
      have hpsz : (strOf (putX x.2)).size = (putX x.2).length := strOf_size _
      generalize hpx : putX x.2 = px at *
      have HPX := Lib.hid hpx
      have HPS := Lib.hid hpsz
      clear hpx hpsz
      have hcw := hCW.cell 0 _ rfl
      gi_wp2
      refine ⟨trivial, (CallsIn.inRound l0 (callsIn_wide.2 hPX)).mono ?_⟩
      rintro e w3 ⟨rfl, hb3⟩
      have hz3 := hb3.size
      have hR3 := hRW.below hb3
      have hC3 := hCW.below hb3 hCW.lt
      have hcw3 := hC3.cell 0 _ rfl
      have hWS := rWS w3 g s k l (strOf px) hR3 (by rw [HPS.out]; omega)
      gi_wp2
      refine ⟨trivial, (CallsIn.inRound l0 (callsIn_wide.2 hWS)).mono ?_⟩
      rintro e w4 ⟨rfl, hR4, hb4, hB4⟩
      obtain ⟨cs4, hb4', h54, h64, h74⟩ := id hR4
      have c14 := hb4'.cells.cell 1 _ h74
      have f14 := hb4'.cells.frozen 1
      have hC4 := hB4.cells hC3 (by omega) (by decide)
      have hcw4 := hC4.cell 0 _ rfl
      clear hb4' h54 h64 h74
      have hR5 := hR4.moved (k + px.length)
      obtain ⟨cw, hcw', -⟩ := id hRW
      have hkeep := keeps_beside (B := w1.heap.size) (((Beside.of_below (E := 5) (g := g) hb3).trans hB4).setCell 1 (.int .i64 ((k + px.length : Nat) : Int))) hcw'.cells
      have hbW5 := ((hbW.trans (hb3.mono (by omega))).trans hb4).setCell (p := ⟨g, 1, none⟩) (Nat.le_refl _) (.int .i64 ((k + px.length : Nat) : Int))
      have hl4 := HPS.out
      gi_wp2
      exact ⟨hkeep, ⟨rfl, x, rfl, by rw [HPX.out]; exact hR5⟩, hbW5⟩
    case done =>
      rintro D ys W hD hys ⟨⟨rfl, hRW, hCW⟩, hbW⟩ hK
      have h0 : (oneN ((bs s).drop k)).2 = 0 := by
        rw [← oneN_take4, ← hRb]
        exact Decidable.byContradiction fun hn => by rw [scan_step hRne, if_neg hn] at hys; cases hys
      gi_wp2
      refine ⟨trivial, (callsIn_wide.2 (fail_any 7 W)).mono ?_⟩
      rintro e w3 ⟨rfl, rfl⟩
      gi_wp2
      refine ⟨by simp, .inl ⟨_, _, rfl, run_takeDeferred hK, ?_⟩⟩
      exact .inr ⟨h0, rfl, hbW.trans ((belowK_b (w := w) (Nat.le_refl _) W D _ _ (by omega) hK rfl rfl).mono (by omega))⟩
    case stop =>
      rintro D c pre W hD hpre ⟨⟨rfl, x, rfl, hRW⟩, hbW⟩ hK
      have hx : (oneN ((bs s).drop k)).2 ≠ 0 ∧ putX x.2 = un (((bs s).drop k).take (oneN ((bs s).drop k)).2) ∧ (putX x.2).length = (oneN ((bs s).drop k)).2 := by
        rw [← oneN_take4, ← hRb]
        have hn : (oneN (bs R)).2 ≠ 0 := fun hn => by rw [scan_bad hRne hn] at hpre; simp at hpre
        rw [scan_step hRne, if_neg hn] at hpre
        obtain ⟨t, ht⟩ := hpre
        simp only [List.cons_append, List.nil_append, List.cons.injEq] at ht
        obtain ⟨rfl, -⟩ := ht
        obtain ⟨q1, q2, q3, q4⟩ := put_oneN (l := bs R) (c := (oneN (bs R)).1) (n := (oneN (bs R)).2) bs_lt (by rfl) hn
        have e1 : putX (oneN (bs R)).1 = putU (oneN (bs R)).1 := by unfold putX; rw [if_pos q1]
        refine ⟨hn, ?_, ?_⟩
        · rw [e1]
          show un (putN _) = _
          rw [q3, hRb, List.take_take, Nat.min_eq_left (by rw [← hRb]; exact (oneN_le _ bs_lt).2)]
        · rw [e1, putU_length, q2]
      gi_wp2
      refine ⟨by simp, .inl ⟨_, _, rfl, run_takeDeferred hK, ?_⟩⟩
      refine ⟨_, results_none rfl _ _ _, .inl ⟨hx.1, rfl, ?_, ?_⟩⟩
      · have := hRW.kept (grownBy_putObj' W D (.deferred none)) (fun r e => by cases e; exact ⟨_, hK, rfl⟩)
        rw [hx.2.2, hx.2.1] at this
        exact this
      · exact hbW.trans ((belowK_b (w := w) (Nat.le_refl _) W D _ _ (by omega) hK rfl rfl).mono (by omega))
end Go.Proofs.YthmmgpbojbjihaaGreatDoor

/- The walks of a part, and of Scan and Parse (layer 7). -/
namespace Go.Proofs.YthmmgpbojbjihaaGreatDoor
open Go.RowKit Go.Tab Go.Shelf

/-- What part does at a place where the bytes L stand. -/
def PartE (g : Nat) (s : ByteArray) (w : World) (k : Nat) (l : List UInt8) (L : List Nat) (e : Ending) (w' : World) : Prop :=
  (L.head? = some 34 ∧ OkW g s w (.bool false) (k + 1) l e w') ∨
  (L.head? ≠ some 34 ∧ (partQ L).2.2 = 0 ∧ OkW g s w (.bool true) (k + (partQ L).2.1) (l ++ un (partQ L).1) e w') ∨
  (L.head? ≠ some 34 ∧ (partQ L).2.2 ≠ 0 ∧ BadR g w ((partQ L).2.2 : Nat) e w')

set_option maxHeartbeats 4000000 in
set_option maxRecDepth 100000 in
theorem part_any (w : World) (g : Nat) (s : ByteArray) (k : Nat) (l : List UInt8) (h : RdrAt w g s k l) (hk : k ≤ s.size) (hs : s.size ≤ 1000000) (hl : l.length ≤ 9000000) (hT : Tab w) (hg : 3 < g) :
    Calls Tryz.prog 49 #[.pointer (some ⟨g, 0, none⟩)] w (PartE g s w k l ((bs s).drop k)) := by
  cases hq : (bs s).drop k with
  | nil =>
    have hN := fun W h => rnext_nil W g s k l h hk hq (by omega)
    clear hq
    go_enter Tryz.func49, Tryz.ntmps49
    go_wp2_with fail
    refine (hN _ h).mono ?_
    rintro e w1 ⟨rfl, hb1⟩
    go_wp2
    exact ⟨rfl, .inr (.inr ⟨by simp, by simp [partQ, errR], rfl, hb1⟩)⟩
  | cons c r =>
    have hN := fun W h => rnext_cons W g s k l h hq (by omega)
    have hc : c < 256 := bs_lt c (List.mem_of_mem_drop (by rw [hq]; simp))
    obtain ⟨hd1, hd2⟩ := drop_cons hq
    rw [bs_length] at hd2
    by_cases h34 : c = 34
    · subst h34
      clear hq hd1
      go_enter Tryz.func49, Tryz.ntmps49
      go_wp2_with fail
      refine (hN _ h).mono ?_
      rintro e w1 ⟨rfl, hR1, hb1, hB1⟩
      go_wp2
      go_ret
      exact .inl ⟨rfl, rfl, hR1, hb1⟩
    have hhd : (c :: r).head? ≠ some 34 := by simpa using h34
    have b34 : ((c : Int) == 34) = false := by rw [beq_eq_false_iff_ne]; omega
    by_cases h92 : c = 92
    · subst h92
      have hE := fun W h => escape_any W g s k l h (by omega) (by omega) hl
      rw [hd1] at hE
      have HC : Hid (partQ (92 :: r) = escQ r) := Lib.hid (by simp [partQ])
      clear hq hd1 hhd h34
      go_enter Tryz.func49, Tryz.ntmps49
      go_wp2_with fail
      refine (hN _ h).mono ?_
      rintro e w1 ⟨rfl, hR1, hb1, hB1⟩
      go_wp2_with fail
      refine (hE _ hR1).mono ?_
      rintro e w2 (⟨h0, rfl, hR2, hb2, hB2⟩ | ⟨h0, rfl, hb2⟩)
      · have H0 := Lib.hid h0
        clear h0
        go_wp2
        go_ret
        exact .inr (.inl ⟨by simp, by rw [HC.out]; exact H0.out, by rw [HC.out]; exact ⟨rfl, hR2, hb1.trans hb2⟩⟩)
      · have H0 := Lib.hid h0
        clear h0
        go_wp2
        exact ⟨rfl, .inr (.inr ⟨by simp, by rw [HC.out]; exact H0.out, by rw [HC.out]; exact ⟨rfl, hb1.trans hb2⟩⟩)⟩
    have b92 : ((c : Int) == 92) = false := by rw [beq_eq_false_iff_ne]; omega
    by_cases h32 : c < 32
    · have HC : Hid (partQ (c :: r) = errR 3) := Lib.hid (by simp [partQ, h32])
      have HH := Lib.hid hhd
      clear hq hd1 hhd h34 h92
      go_enter Tryz.func49, Tryz.ntmps49
      go_wp2_with fail
      refine (hN _ h).mono ?_
      rintro e w1 ⟨rfl, hR1, hb1, hB1⟩
      go_wp2_with fail
      refine (fail_any 3 _).mono ?_
      rintro e w2 ⟨rfl, rfl⟩
      go_wp2
      exact ⟨rfl, .inr (.inr ⟨HH.out, by rw [HC.out]; simp [errR], by rw [HC.out]; exact ⟨rfl, hb1⟩⟩)⟩
    by_cases h128 : c < 128
    · have HC : Hid (partQ (c :: r) = ([c], 1, 0)) := Lib.hid (by
        simp only [partQ]
        rw [if_neg h32, if_neg h92]
        simp [oneN, h128])
      have HH := Lib.hid hhd
      clear hq hd1 hhd h34 h92
      have h32' : 32 ≤ c := by omega
      clear h32
      go_enter Tryz.func49, Tryz.ntmps49
      go_wp2_with fail
      refine (hN _ h).mono ?_
      rintro e w1 ⟨rfl, hR1, hb1, hB1⟩
      go_wp2_with fail
      refine (rWB w1 g s _ l c _ rfl (by omega) hR1 (by omega)).mono ?_
      rintro e w2 ⟨rfl, hR2, hb2, hB2⟩
      go_wp2
      go_ret
      exact .inr (.inl ⟨HH.out, by rw [HC.out], by rw [HC.out]; exact ⟨rfl, hR2, hb1.trans hb2⟩⟩)
    · have HC : Hid (partQ (c :: r) = if (oneN (c :: r)).2 = 0 then errR 7 else ((c :: r).take (oneN (c :: r)).2, (oneN (c :: r)).2, 0)) := Lib.hid (by
        simp only [partQ]
        rw [if_neg h32, if_neg h92])
      have hS := fun W h hT => scalar_any W g s k l h (by omega) hs hl hT
      rw [hq] at hS
      generalize hcr : c :: r = cr at *
      have HH := Lib.hid hhd
      clear hq hd1 hhd h34 h92 hcr
      have h32' : 128 ≤ c := by omega
      clear h32 h128
      go_enter Tryz.func49, Tryz.ntmps49
      go_wp2_with fail
      refine (hN _ h).mono ?_
      rintro e w1 ⟨rfl, hR1, hb1, hB1⟩
      have hR2 := hR1.moved k
      have hT2 := hT.below (hb1.trans (below_moved g (.int .i64 (k : Int)))) hg
      obtain ⟨cs, hbl, h5, h6, h7⟩ := id hR1
      have c1 := hbl.cells.cell 1 _ h7
      have f1 := hbl.cells.frozen 1
      clear hbl h5 h6 h7
      go_wp2_with fail
      refine (hS _ hR2 hT2).mono ?_
      rintro e w2 (⟨h0, rfl, hR3, hb3⟩ | ⟨h0, rfl, hb3⟩)
      · have H0 := Lib.hid h0
        clear h0
        go_wp2
        go_ret
        exact .inr (.inl ⟨HH.out, by rw [HC.out, if_neg H0.out], by rw [HC.out, if_neg H0.out]; exact ⟨rfl, hR3, (hb1.trans (below_moved g _)).trans hb3⟩⟩)
      · have H0 := Lib.hid h0
        clear h0
        go_wp2
        exact ⟨rfl, .inr (.inr ⟨HH.out, by rw [HC.out, if_pos H0.out]; simp [errR], by rw [HC.out, if_pos H0.out]; exact ⟨rfl, (hb1.trans (below_moved g _)).trans hb3⟩⟩)⟩
end Go.Proofs.YthmmgpbojbjihaaGreatDoor

/- The walks of Scan and Parse (layer 7). -/
namespace Go.Proofs.YthmmgpbojbjihaaGreatDoor
open Go.RowKit Go.Tab Go.Shelf

theorem Tryz.asFail (v : Value) (w : World) : (Instr.typeAssert (.iface 80 v) 20 80 true).run Tryz.prog w = .ok (.tuple #[v, .bool true]) w := by kernel_rfl
set_option maxHeartbeats 4000000 in
set_option maxRecDepth 100000 in
theorem catch_panicking (b0 b1 b2 : Nat) (v0 v1 v2 : Value) (n : Int) (older : List PanicEntry) (w : World) (h0 : Cells w b0 #[v0] 9) (h1 : Cells w b1 #[v1] 3) (h2 : Cells w b2 #[v2] 24) (h01 : b0 < b1) (h12 : b1 < b2) :
    CallsD Tryz.prog 46 #[.pointer (some ⟨b0, 0, none⟩), .pointer (some ⟨b1, 0, none⟩), .pointer (some ⟨b2, 0, none⟩)] (.panicking ({ v := failV n, recovered := false } :: older)) w fun e u' w' =>
      e = .returned (.tuple #[]) ∧ u' = .panicking ({ v := failV n, recovered := true } :: older) ∧ Cells w' b0 #[.string ⟨#[]⟩] 9 ∧ Cells w' b1 #[.int .i64 0] 3 ∧ Cells w' b2 #[.int .i64 n] 24 ∧ Below b0 w w' := by
  refine callsD_of_wpS Tryz.func46 rfl fun c₀ cs hu => ?_
  apply wpS_seq
  apply wpS_region
  simp [wpOpsS, go_sem, recoverD, hu, Tryz.ntmps46, Exit.thenS]
  refine wpS_of_wp ?_
  rw [show (#[Value.pointer (some ⟨b0, 0, none⟩), .pointer (some ⟨b1, 0, none⟩), .pointer (some ⟨b2, 0, none⟩)] ++ ((Array.replicate 16 undef).setIfInBounds 3 (failV n)).setIfInBounds 0 (failV n)) = #[Value.pointer (some ⟨b0, 0, none⟩), .pointer (some ⟨b1, 0, none⟩), .pointer (some ⟨b2, 0, none⟩), failV n, undef, undef, failV n, undef, undef, undef, undef, undef, undef, undef, undef, undef, undef, undef, undef] from rfl]
  have has := Tryz.asFail
  have hx := Cells.new w #[.int .i64 n] 80
  have hxc := hx.cell 0 _ rfl
  have k0 := (h0.alloc (.cells #[.int .i64 n] 80))
  have k1 := (h1.alloc (.cells #[.int .i64 n] 80))
  have k2 := (h2.alloc (.cells #[.int .i64 n] 80))
  have k0c := k0.cell 0 _ rfl
  have k0f := k0.frozen 0
  have k1c := k1.cell 0 _ rfl
  have k1f := k1.frozen 0
  have k2c := k2.cell 0 _ rfl
  have k2f := k2.frozen 0
  have n01 : ¬ b0 = b1 := by omega
  have n10 : ¬ b1 = b0 := by omega
  have n02 : ¬ b0 = b2 := by omega
  have n20 : ¬ b2 = b0 := by omega
  have n12 : ¬ b1 = b2 := by omega
  have n21 : ¬ b2 = b1 := by omega
  have l0 := h0.lt
  have l1 := h1.lt
  have l2 := h2.lt
  clear h0 h1 h2
  go_wp2
  have x0 : ¬ w.heap.size = b0 := by omega
  have x1 : ¬ w.heap.size = b1 := by omega
  have x2 : ¬ w.heap.size = b2 := by omega
  have y0 : ¬ b0 = w.heap.size := by omega
  have y1 : ¬ b1 = w.heap.size := by omega
  have y2 : ¬ b2 = w.heap.size := by omega
  have hb : Below b0 w (w.alloc (.cells #[.int .i64 n] 80)) := (Below.refl b0 w).alloc (Nat.le_of_lt l0) _
  have H01 := Lib.hid (show b0 ≤ b1 ∧ b0 ≤ b2 by omega)
  clear l0 l1 l2 h01 h12
  generalize w.alloc (.cells #[.int .i64 n] 80) = W0 at *
  generalize w.heap.size = X at *
  go_region
  have r0 := ((k0.set 0 (by simp) (.string ⟨#[]⟩)).setOther ⟨b1, 0, none⟩ (.int .i64 0) (by simpa using n10)).setOther ⟨b2, 0, none⟩ (.int .i64 n) (by simpa using n20)
  have r1 := ((k1.setOther ⟨b0, 0, none⟩ (.string ⟨#[]⟩) (by simpa using n01)).set 0 (by simp) (.int .i64 0)).setOther ⟨b2, 0, none⟩ (.int .i64 n) (by simpa using n21)
  have r2 := ((k2.setOther ⟨b0, 0, none⟩ (.string ⟨#[]⟩) (by simpa using n02)).setOther ⟨b1, 0, none⟩ (.int .i64 0) (by simpa using n12)).set 0 (by simp) (.int .i64 n)
  clear k0 k1 k2 k0c k0f k1c k1f k2c k2f has
  cases c₀
  exact ⟨rfl, _, rfl, _, results_none rfl _ _ _, rfl, rfl, r0, r1, r2, (((hb.setCell (p := ⟨b0, 0, none⟩) (Nat.le_refl _) _).setCell (p := ⟨b1, 0, none⟩) H01.out.1 _).setCell (p := ⟨b2, 0, none⟩) H01.out.2 _).drew⟩

theorem catch_idle (p q r : Value) (w : World) :
    CallsD Tryz.prog 46 #[p, q, r] .returning w fun e u' w' => e = .returned (.tuple #[]) ∧ u' = .returning ∧ w' = w := by
  refine callsD_of_wpS Tryz.func46 rfl fun c₀ cs hu => ?_
  apply wpS_seq
  apply wpS_region
  simp [wpOpsS, go_sem, recoverD, hu, Tryz.ntmps46, Exit.thenS]
  refine wpS_of_wp ?_
  rw [show (#[p, q, r] ++ ((Array.replicate 16 undef).setIfInBounds 3 Value.nilIface).setIfInBounds 0 Value.nilIface) = #[p, q, r, Value.nilIface, undef, undef, Value.nilIface, undef, undef, undef, undef, undef, undef, undef, undef, undef, undef, undef, undef] from rfl]
  go_wp2
  cases c₀
  simp_all [bodyPostS, results, Tryz.results46]

end Go.Proofs.YthmmgpbojbjihaaGreatDoor

/- The walks of Scan and Parse (layer 7). -/
namespace Go.Proofs.YthmmgpbojbjihaaGreatDoor
open Go.RowKit Go.Tab Go.Shelf

/-- What Scan hands back. -/
def scanV (q : PartR) : Value := .tuple #[.string (strOf (un q.1)), .int .i64 (q.2.1 : Int), .int .i64 (q.2.2 : Int)]


/-- The three results' boxes, and the reader, newly made. -/
def mk3 (w : World) : World := ((w.alloc (.cells #[.string ⟨#[]⟩] 9)).alloc (.cells #[.int .i64 0] 3)).alloc (.cells #[.int .i64 0] 24)
def mkR (w : World) (s : ByteArray) : World := (mk3 w).alloc (.cells #[.string s, .int .i64 0, .pointer none, .slice none 0 0] 88)
theorem mk3_size (w : World) : (mk3 w).heap.size = w.heap.size + 3 := by simp [mk3]
theorem mkR_below (w : World) (s : ByteArray) : Below w.heap.size w (mkR w s) := by
  unfold mkR mk3
  exact ((((Below.refl _ w).alloc (Nat.le_refl _) _).alloc (by simp) _).alloc (by simp; omega) _).alloc (by simp; omega) _
theorem mkR_box (w : World) (s : ByteArray) : Cells (mkR w s) w.heap.size #[.string ⟨#[]⟩] 9 ∧ Cells (mkR w s) (w.heap.size + 1) #[.int .i64 0] 3 ∧ Cells (mkR w s) (w.heap.size + 2) #[.int .i64 0] 24 := by
  unfold mkR mk3
  have h0 := Cells.new w #[.string ⟨#[]⟩] 9
  have h1 := Cells.new (w.alloc (.cells #[.string ⟨#[]⟩] 9)) #[.int .i64 0] 3
  have h2 := Cells.new ((w.alloc (.cells #[.string ⟨#[]⟩] 9)).alloc (.cells #[.int .i64 0] 3)) #[.int .i64 0] 24
  simp only [World.size_alloc] at h1 h2
  exact ⟨((h0.alloc _).alloc _).alloc _, (h1.alloc _).alloc _, h2.alloc _⟩
theorem mkR_rdr (w : World) (s : ByteArray) : RdrAt (mkR w s) (w.heap.size + 3) s 0 [] := by
  have h := Cells.new (mk3 w) #[.string s, .int .i64 0, .pointer none, .slice none 0 0] 88
  rw [mk3_size] at h
  exact ⟨_, ⟨h, .inl rfl, _, rfl, OwnOf.nil⟩, rfl, rfl, rfl⟩

/-- Where the reader in block g stands. -/
def atOf (w : World) (g : Nat) : Nat := match w.cell? ⟨g, 1, none⟩ with
  | some (.int _ n) => n.toNat
  | _ => 0
theorem RdrAt.atOf {w : World} {g : Nat} {s : ByteArray} {k : Nat} {l : List UInt8} (h : RdrAt w g s k l) : YthmmgpbojbjihaaGreatDoor.atOf w g = k := by
  obtain ⟨cs, h1, _, _, h7⟩ := h
  unfold YthmmgpbojbjihaaGreatDoor.atOf
  rw [h1.cells.cell 1 _ h7]
  simp
theorem un_length (l : List Nat) : (un l).length = l.length := by simp [un]

set_option maxHeartbeats 4000000 in
set_option maxRecDepth 100000 in
theorem qScan_any (s : ByteArray) (w : World) (hs : s.size ≤ 1000000) (hT : Tab w) :
    Calls Tryz.prog 36 #[.string s] w fun e w' => e = .returned (scanV (scanQ (bs s))) ∧ Below w.heap.size w w' := by
  have hmf : ∀ (fn : Fn) (first cap : Array Value) (w : World), (Instr.makeFunc fn first cap).run Tryz.prog w = .ok (.func fn first cap) w := fun _ _ _ _ => rfl
  have hpos := hT.pos
  have hR := mkR_rdr w s
  obtain ⟨x0, x1, x2⟩ := mkR_box w s
  have hB := mkR_below w s
  have hTR := hT.below hB hpos
  cases hq : bs s with
  | nil =>
    have hN := rnext_nil (mkR w s) _ s 0 [] hR (Nat.zero_le _) (by simpa using hq) (by omega)
    have HC : Hid (scanQ (bs s) = errR 2) := Lib.hid (by rw [hq]; rfl)
    rw [← hq]
    unfold mkR mk3 at hN
    clear hq
    go_enter_defers Tryz.func36, Tryz.ntmps36
    go_wp2_with fail
    refine hN.mono ?_
    rintro e w1 ⟨rfl, hb1⟩
    have y0 := x0.below hb1 (by omega)
    have y1 := x1.below hb1 (by omega)
    have y2 := x2.below hb1 (by omega)
    go_wp2
    refine leaves_cons (f := 46) (args := #[.pointer (some ⟨w.heap.size, 0, none⟩), .pointer (some ⟨w.heap.size + 1, 0, none⟩), .pointer (some ⟨w.heap.size + 2, 0, none⟩)]) (by simp) (by simp [go_sem]) ?_
    refine (catch_panicking w.heap.size (w.heap.size + 1) (w.heap.size + 2) _ _ _ _ [] _ y0 y1 y2 (by omega) (by omega)).mono ?_
    rintro e u' w'' ⟨rfl, rfl, r0, r1, r2, hbl⟩
    have q0 := r0.cell 0 _ rfl
    have q1 := r1.cell 0 _ rfl
    have q2 := r2.cell 0 _ rfl
    clear r0 r1 r2
    simp [Leaves, settle, results, Tryz.results36, go_sem, q0, q1, q2]
    exact ⟨by rw [HC.out]; rfl, (hB.trans (hb1.mono (by omega))).trans hbl⟩
  | cons c r =>
    have hN := rnext_cons (mkR w s) _ s 0 [] hR (by simpa using hq) (by omega)
    have hc : c < 256 := bs_lt c (by rw [hq]; simp)
    have hlen : r.length + 1 = s.size := by rw [← bs_length, hq]; rfl
    by_cases hc34 : c = 34
    · subst hc34
      have HQ : Hid (scanQ (bs s) = joinR [] 1 (bodyQ ((bs s).drop 1))) := Lib.hid (by rw [hq]; rfl)
      rw [← hq]
      unfold mkR mk3 at hN
      clear hq
      go_enter_defers Tryz.func36, Tryz.ntmps36
      go_wp2_with fail
      refine hN.mono ?_
      clear hN
      rintro e w1 ⟨rfl, hR1, hb1, hB1⟩
      have y0 := x0.below hb1 (by omega)
      have y1 := x1.below hb1 (by omega)
      have y2 := x2.below hb1 (by omega)
      have hb1' := hB.trans (hb1.mono (by omega))
      clear x0 x1 x2 hB1 hb1 hB hR hTR
      go_wp2_with fail
      go_loopw [] (fun wr => ∃ (k : Nat) (pre : List Nat), RdrAt wr (w.heap.size + 3) s k (un pre) ∧ k ≤ s.size ∧ pre.length ≤ 4 * k ∧ joinR pre k (bodyQ ((bs s).drop k)) = scanQ (bs s) ∧ Cells wr w.heap.size #[.string ⟨#[]⟩] 9 ∧ Cells wr (w.heap.size + 1) #[.int .i64 0] 3 ∧ Cells wr (w.heap.size + 2) #[.int .i64 0] 24 ∧ Below w.heap.size w wr) (fun wr => s.size - atOf wr (w.heap.size + 3))
      case atStart => exact ⟨1, [], hR1, by omega, by simp, HQ.out.symm, y0, y1, y2, hb1'⟩
      case round =>
        clear hR1 y0 y1 y2 hb1' HQ
        obtain ⟨k, pre, hR, hk, hpl, hj, x0, x1, x2, hb⟩ := hrel
        have HJ := Lib.hid hj
        have hat : atOf wr (w.heap.size + 3) = k := hR.atOf
        have hT1 := hT.below hb hpos
        have hP := part_any wr _ s k (un pre) hR hk hs (by rw [un_length]; omega) hT1 (by omega)
        clear hj
        have hBy : Byt ((bs s).drop k) := fun x hx => bs_lt x (List.mem_of_mem_drop hx)
        go_wp2_with fail
        refine hP.mono ?_
        clear hP
        rintro e w2 (⟨hh, rfl, hR2, hb2⟩ | ⟨hh, he, rfl, hR2, hb2⟩ | ⟨hh, he, rfl, hb2⟩)
        · have HC : Hid (scanQ (bs s) = (pre, k + 1, 0)) := Lib.hid (by rw [← HJ.out, joinR_end hBy hh])
          have y0 := x0.below hb2 (by omega)
          have y1 := x1.below hb2 (by omega)
          have y2 := x2.below hb2 (by omega)
          have hb3 := hb.trans (hb2.mono (by omega))
          clear hh hBy x0 x1 x2 hb hb2 HJ hR hat
          obtain ⟨cs, hbl, h5, h6, h7⟩ := hR2
          have hlt2 := hbl.cells.lt
          have hg2 := hbl.cells
          have hc2 : w2.drew.cell? ⟨w.heap.size + 1 + 1 + 1, 1, none⟩ = some (.int .i64 ((k + 1 : Nat) : Int)) := hbl.cells.cell 1 _ h7
          have hl2 : (un pre).length ≤ 1000000000 := by rw [un_length]; omega
          have hSt := String_any w2.drew (h := (show Bld 88 (w.heap.size + 3) w2.drew (w.heap.size + 3) 2 cs (un pre) from ⟨hbl.cells.drew, hbl.addr, by obtain ⟨v, e1, e2⟩ := hbl.buf; exact ⟨v, e1, e2.drew⟩⟩)) (Nat.le_of_lt hlt2) hl2
          obtain ⟨S, hS⟩ : ∃ S : ByteArray, S = ⟨(un pre).toArray⟩ := ⟨_, rfl⟩
          rw [← hS] at hSt
          have HS := Lib.hid hS
          clear hS hbl hl2 h5 h6
          go_wp2_with fail
          go_region_held3 (fun w' => w'.cell? ⟨w.heap.size + 1 + 1 + 1, 1, none⟩ = some (.int .i64 ((k + 1 : Nat) : Int))) (first | exact hc2 | exact hc6 | exact hc7 | exact hc8 | exact hc9) (first
            | (go_at_call 50; refine hSt.mono ?_; rintro e6 w6 ⟨rfl, hb6, hk6⟩
               have hz2 := y2.lt
               have z0 : Cells w6 w.heap.size _ _ := hk6 _ _ y0.lt y0 (fun _ _ h => by cases h)
               have z1 : Cells w6 (w.heap.size + 1) _ _ := hk6 _ _ y1.lt y1 (fun _ _ h => by cases h)
               have z2 : Cells w6 (w.heap.size + 1 + 1) _ _ := hk6 _ _ y2.lt y2 (fun _ _ h => by cases h)
               have zg : Cells w6 (w.heap.size + 1 + 1 + 1) cs 88 := hk6 _ _ hlt2 hg2 (fun _ _ h => by cases h)
               have hc6 := zg.cell 1 _ h7
               have zg7 := zg.setOther ⟨w.heap.size, 0, none⟩ (.string S) (by simp; omega)
               have zg8 := zg7.setOther ⟨w.heap.size + 1, 0, none⟩ (.int .i64 ((k + 1 : Nat) : Int)) (by simp)
               have zg9 := zg8.setOther ⟨w.heap.size + 1 + 1, 0, none⟩ (.int .i64 0) (by simp)
               have hc7 := zg7.cell 1 _ h7
               have hc8 := zg8.cell 1 _ h7
               have hc9 := zg9.cell 1 _ h7
               have z0c := z0.cell 0 _ rfl
               have z0f := z0.frozen 0
               have z1c := z1.cell 0 _ rfl
               have z1f := z1.frozen 0
               have z2c := z2.cell 0 _ rfl
               have z2f := z2.frozen 0))
          have r0 := ((z0.set 0 (by simp) (.string S)).setOther ⟨w.heap.size + 1, 0, none⟩ (.int .i64 ((k + 1 : Nat) : Int)) (by simp)).setOther ⟨w.heap.size + 1 + 1, 0, none⟩ (.int .i64 0) (by simp; omega)
          have r1 := ((z1.setOther ⟨w.heap.size, 0, none⟩ (.string S) (by simp)).set 0 (by simp) (.int .i64 ((k + 1 : Nat) : Int))).setOther ⟨w.heap.size + 1 + 1, 0, none⟩ (.int .i64 0) (by simp)
          have r2 := ((z2.setOther ⟨w.heap.size, 0, none⟩ (.string S) (by simp; omega)).setOther ⟨w.heap.size + 1, 0, none⟩ (.int .i64 ((k + 1 : Nat) : Int)) (by simp)).set 0 (by simp) (.int .i64 0)
          have hb7 : Below w.heap.size w w6 := hb3.drew.trans (hb6.mono (by omega))
          have hb8 := ((hb7.setCell (p := ⟨w.heap.size, 0, none⟩) (Nat.le_refl _) (.string S)).setCell (p := ⟨w.heap.size + 1, 0, none⟩) (by simp) (.int .i64 ((k + 1 : Nat) : Int))).setCell (p := ⟨w.heap.size + 1 + 1, 0, none⟩) (by simp; omega) (.int .i64 0)
          have q0 := r0.cell 0 _ rfl
          have q1 := r1.cell 0 _ rfl
          have q2 := r2.cell 0 _ rfl
          clear r0 r1 r2 z0 z1 z2 zg zg7 zg8 zg9 z0c z0f z1c z1f z2c z2f hc2 hc6 hc7 hc8 hc9 hk6 hSt
          go_wp2
          refine leaves_cons (f := 46) (args := #[.pointer (some ⟨w.heap.size, 0, none⟩), .pointer (some ⟨w.heap.size + 1, 0, none⟩), .pointer (some ⟨w.heap.size + 1 + 1, 0, none⟩)]) (by simp) (by simp [go_sem]) ?_
          refine (catch_idle _ _ _ _).mono ?_
          rintro e u' w'' ⟨rfl, rfl, rfl⟩
          simp only [Int.natCast_add, Int.natCast_one] at q0 q1 q2 hb8
          simp [Leaves, settle, results, Tryz.results36, go_sem, q0, q1, q2]
          exact ⟨by rw [HC.out, HS.out]; rfl, hb8⟩
        · obtain ⟨c, hc1, hc2, hc3, hc4⟩ := partQ_ok hBy he
          have HN : Hid (joinR (pre ++ (partQ ((bs s).drop k)).1) (k + (partQ ((bs s).drop k)).2.1) (bodyQ ((bs s).drop (k + (partQ ((bs s).drop k)).2.1))) = scanQ (bs s)) := Lib.hid (by rw [← HJ.out, joinR_good hBy hh he, List.drop_drop])
          have hpl2 : (pre ++ (partQ ((bs s).drop k)).1).length ≤ 4 * (k + (partQ ((bs s).drop k)).2.1) := by
            rw [List.length_append, hc2, putN_len]; have := (wid_pos c).2; omega
          have hk2 : k + (partQ ((bs s).drop k)).2.1 ≤ s.size := by rw [List.length_drop, bs_length] at hc4; omega
          have hR3 : RdrAt w2 (w.heap.size + 3) s (k + (partQ ((bs s).drop k)).2.1) (un (pre ++ (partQ ((bs s).drop k)).1)) := by rw [un_append]; exact hR2
          have hat2 : atOf w2 (w.heap.size + 3) = k + (partQ ((bs s).drop k)).2.1 := hR3.atOf
          have y0 := x0.below hb2 (by omega)
          have y1 := x1.below hb2 (by omega)
          have y2 := x2.below hb2 (by omega)
          have hb3 := hb.trans (hb2.mono (by omega))
          generalize (partQ ((bs s).drop k)).2.1 = z at *
          generalize (partQ ((bs s).drop k)).1 = zo at *
          have HAT := Lib.hid hat
          have HAT2 := Lib.hid hat2
          clear hat hat2 hh he hc2
          go_wp2
          go_roundw
          case rel => exact ⟨k + z, pre ++ zo, hR3, hk2, hpl2, HN.out, y0, y1, y2, hb3⟩
          case measure => rw [HAT.out, HAT2.out]; omega
        · have HC : Hid (scanQ (bs s) = errR (partQ ((bs s).drop k)).2.2) := Lib.hid (by rw [← HJ.out, joinR_bad hBy hh he])
          have y0 := x0.below hb2 (by omega)
          have y1 := x1.below hb2 (by omega)
          have y2 := x2.below hb2 (by omega)
          have hb3 := hb.trans (hb2.mono (by omega))
          clear hh hBy x0 x1 x2 hb hb2 HJ hR he hat
          generalize (partQ ((bs s).drop k)).2.2 = z at *
          go_wp2
          refine leaves_cons (f := 46) (args := #[.pointer (some ⟨w.heap.size, 0, none⟩), .pointer (some ⟨w.heap.size + 1, 0, none⟩), .pointer (some ⟨w.heap.size + 2, 0, none⟩)]) (by simp) (by simp [go_sem]) ?_
          refine (catch_panicking w.heap.size (w.heap.size + 1) (w.heap.size + 2) _ _ _ _ [] _ y0 y1 y2 (by omega) (by omega)).mono ?_
          rintro e u' w'' ⟨rfl, rfl, r0, r1, r2, hbl⟩
          have q0 := r0.cell 0 _ rfl
          have q1 := r1.cell 0 _ rfl
          have q2 := r2.cell 0 _ rfl
          clear r0 r1 r2
          simp [Leaves, settle, results, Tryz.results36, go_sem, q0, q1, q2]
          exact ⟨by rw [HC.out]; rfl, hb3.trans hbl⟩
    · have HC : Hid (scanQ (bs s) = errR 3) := Lib.hid (by rw [hq]; simp only [scanQ]; rw [if_pos hc34])
      have hbc : ((c : Int) != 34) = true := by rw [bne_iff_ne]; omega
      rw [← hq]
      unfold mkR mk3 at hN
      clear hq hc34
      go_enter_defers Tryz.func36, Tryz.ntmps36
      go_wp2_with fail
      refine hN.mono ?_
      rintro e w1 ⟨rfl, hR1, hb1, hB1⟩
      have y0 := x0.below hb1 (by omega)
      have y1 := x1.below hb1 (by omega)
      have y2 := x2.below hb1 (by omega)
      go_wp2_with fail
      refine (fail_any 3 _).mono ?_
      rintro e w2 ⟨rfl, rfl⟩
      go_wp2
      refine leaves_cons (f := 46) (args := #[.pointer (some ⟨w.heap.size, 0, none⟩), .pointer (some ⟨w.heap.size + 1, 0, none⟩), .pointer (some ⟨w.heap.size + 2, 0, none⟩)]) (by simp) (by simp [go_sem]) ?_
      refine (catch_panicking w.heap.size (w.heap.size + 1) (w.heap.size + 2) _ _ _ _ [] _ y0 y1 y2 (by omega) (by omega)).mono ?_
      rintro e u' w'' ⟨rfl, rfl, r0, r1, r2, hbl⟩
      have q0 := r0.cell 0 _ rfl
      have q1 := r1.cell 0 _ rfl
      have q2 := r2.cell 0 _ rfl
      clear r0 r1 r2
      simp [Leaves, settle, results, Tryz.results36, go_sem, q0, q1, q2]
      exact ⟨by rw [HC.out]; rfl, (hB.trans (hb1.mono (by omega))).trans hbl⟩

/-- What Parse tells. -/
def parseQ (l : List Nat) : List Nat × Nat := if (scanQ l).2.2 ≠ 0 then ([], (scanQ l).2.2) else if (scanQ l).2.1 < l.length then ([], 14) else ((scanQ l).1, 0)
def parseV (q : List Nat × Nat) : Value := .tuple #[.string (strOf (un q.1)), .int .i64 (q.2 : Int)]

set_option maxHeartbeats 1000000 in
set_option maxRecDepth 100000 in
theorem Parse_any (s : ByteArray) (w : World) (hs : s.size ≤ 1000000) (hT : Tab w) :
    Calls Tryz.prog 42 #[.string s] w fun e w' => e = .returned (parseV (parseQ (bs s))) ∧ Below w.heap.size w w' := by
  have hS := qScan_any s w hs hT
  unfold scanV at hS
  unfold parseV parseQ
  rw [bs_length]
  generalize scanQ (bs s) = q at *
  obtain ⟨o, z, e⟩ := q
  simp only at hS ⊢
  by_cases he : e = 0
  · subst he
    simp only [ne_eq, not_true_eq_false, if_false]
    by_cases hz : z < s.size
    · rw [if_pos hz]
      go_enter Tryz.func42, Tryz.ntmps42
      go_wp2_with fail
      refine hS.mono ?_
      rintro e w1 ⟨rfl, hb1⟩
      go_wp2
      go_ret2
      exact ⟨rfl, hb1⟩
    · rw [if_neg hz]
      have hz' : s.size ≤ z := by omega
      clear hz
      go_enter Tryz.func42, Tryz.ntmps42
      go_wp2_with fail
      refine hS.mono ?_
      rintro e w1 ⟨rfl, hb1⟩
      go_wp2
      go_ret2
      exact ⟨rfl, hb1⟩
  · rw [if_pos he]
    have hbe : ((e : Int) != 0) = true := by rw [bne_iff_ne]; omega
    clear he
    go_enter Tryz.func42, Tryz.ntmps42
    go_wp2_with fail
    refine hS.mono ?_
    rintro e w1 ⟨rfl, hb1⟩
    go_wp2
    go_ret2
    exact ⟨rfl, hb1⟩
end Go.Proofs.YthmmgpbojbjihaaGreatDoor

/- The parser of expressions: its small methods (layer 12). -/
namespace Go.Proofs.YthmmgpbojbjihaaGreatDoor
open Go.RowKit Go.Tab

/-- The parser's box. -/
abbrev PrC (w : World) (g : Nat) (lv : Value) (k : Int) (e : Int) : Prop := Cells w g #[lv, .int .i64 k, .int .i64 e] 98
/-- A parser that stands at a token, and has not failed. -/
structure Prs (w : World) (g : Nat) (lv : Value) (l : List Tok) (k : Nat) : Prop where
  box : PrC w g lv (k : Nat) 0
  toks : ToksAt w lv l
  own : ∀ b, lv.ownBlock = some b → b < g
  le : k ≤ l.length
  small : l.length ≤ 1000000
  tab : Tab w
  tabg : 3 < g
  short : ∀ t ∈ l, t.text.size ≤ 1000000
theorem Prs.go {w w' : World} {g : Nat} {lv : Value} {l : List Tok} {k k' : Nat} (h : Prs w g lv l k) (hs : Save g w w') (hc : PrC w' g lv (k' : Nat) 0) (hk : k' ≤ l.length) : Prs w' g lv l k' :=
  ⟨hc, h.toks.moved hs.size (fun b off hb hv => cell_same (hs.2 b hb (by have := h.own b hv; omega)) off), h.own, hk, h.small, fun j hj => (hs.cell (h.tab j hj) (by have := h.tabg; omega)), h.tabg, h.short⟩
theorem ToksAt.move {w w' : World} {g : Nat} {lv : Value} {l : List Tok} (h : ToksAt w lv l) (hs : Save g w w') (ho : ∀ b, lv.ownBlock = some b → b < g) : ToksAt w' lv l :=
  h.moved hs.size (fun b off hb hv => cell_same (hs.2 b hb (by have := ho b hv; omega)) off)

set_option maxHeartbeats 2000000 in
set_option maxRecDepth 100000 in
theorem is_no (w : World) (g : Nat) (lv : Value) (k e : Int) (s : ByteArray) (hc : PrC w g lv k e) (he : e ≠ 0) (hl : ∃ a n c, lv = .slice a n c) :
    Calls Tryz.prog 77 #[.pointer (some ⟨g, 0, none⟩), .string s] w fun r w' => r = .returned (.bool false) ∧ ∃ n, w' = w.drewN n := by
  obtain ⟨a, n, c, rfl⟩ := hl
  have hlt := hc.lt
  have hne : (e != 0) = true := by simpa using he
  have hcc0 := hc.cell 0 _ rfl
  have hcf0 := hc.frozen 0
  have hcc1 := hc.cell 1 _ rfl
  have hcf1 := hc.frozen 1
  have hcc2 := hc.cell 2 _ rfl
  have hcf2 := hc.frozen 2
  go_enter Tryz.func77, Tryz.ntmps77
  go_wp2_with fail
  go_quiet (fail)
  go_wp2
  go_ret
  exact ⟨rfl, _, rfl⟩

set_option maxHeartbeats 2000000 in
set_option maxRecDepth 100000 in
theorem is_ok (w : World) (g : Nat) (lv : Value) (l : List Tok) (k : Nat) (s : ByteArray) (h : Prs w g lv l k) :
    Calls Tryz.prog 77 #[.pointer (some ⟨g, 0, none⟩), .string s] w fun r w' => r = .returned (.bool (isS (l.drop k) s)) ∧ Below w.heap.size w w' := by
  have hc := h.box
  have hlt := hc.lt
  obtain ⟨a, c, rfl, hl1, hl2, -⟩ := h.toks.len
  unfold maxLen at hl2
  have hle := h.le
  by_cases hk : k = l.length
  · subst hk
    rw [List.drop_length]
    have hcc0 := hc.cell 0 _ rfl
    have hcf0 := hc.frozen 0
    have hcc1 := hc.cell 1 _ rfl
    have hcf1 := hc.frozen 1
    have hcc2 := hc.cell 2 _ rfl
    have hcf2 := hc.frozen 2
    go_enter Tryz.func77, Tryz.ntmps77
    go_wp2_with fail
    go_quiet (fail)
    go_wp2
    go_ret
    exact ⟨rfl, below_draws _ _ _⟩
  · have hkl : k < l.length := by omega
    obtain ⟨b, off, rfl, hb, c0, c1, c2⟩ := ToksAt.get h.toks hkl
    have hd : isS (l.drop k) s = (decide (l[k].kind = 4) && decide (l[k].text = s)) := by rw [List.drop_eq_getElem_cons hkl]; rfl
    rw [hd]
    have hqk : ((k : Int) == (l.length : Int)) = false := by rw [beq_eq_false_iff_ne]; omega
    generalize l[k] = t at *
    clear hd hk
    have hcc0 := hc.cell 0 _ rfl
    have hcf0 := hc.frozen 0
    have hcc1 := hc.cell 1 _ rfl
    have hcf1 := hc.frozen 1
    have hcc2 := hc.cell 2 _ rfl
    have hcf2 := hc.frozen 2
    go_enter Tryz.func77, Tryz.ntmps77
    go_wp2_with fail
    go_quiet (fail)
    go_wp2_with fail
    have ha : ∀ (n b' o' : Nat) (u : Value), b' < w.heap.size → w.cell? ⟨b', o', none⟩ = some u → ((w.drewN n).alloc (.cells #[.int .i64 0, .string ⟨#[]⟩, .int .i64 0] 45)).cell? ⟨b', o', none⟩ = some u := fun n b' o' u h1 h2 => (World.cell?_alloc_past _ _ _ h1).trans h2
    have ha0 := fun n => ha n _ _ _ hlt hcc0
    have ha1 := fun n => ha n _ _ _ hlt hcc1
    have hb0 := fun n => ha n _ _ _ hb c0
    have hb1 := fun n => ha n _ _ _ hb c1
    have hb2 := fun n => ha n _ _ _ hb c2
    have hn := fun n => Cells.new (w.drewN n) #[.int .i64 0, .string ⟨#[]⟩, .int .i64 0] 45
    have hn0 : ∀ n, ((w.drewN n).alloc (.cells #[.int .i64 0, .string ⟨#[]⟩, .int .i64 0] 45)).cell? ⟨w.heap.size, 0, none⟩ = some (.int .i64 0) := fun n => (hn n).cell 0 _ rfl
    have hn1 : ∀ n, ((w.drewN n).alloc (.cells #[.int .i64 0, .string ⟨#[]⟩, .int .i64 0] 45)).cell? ⟨w.heap.size, 1, none⟩ = some (.string ⟨#[]⟩) := fun n => (hn n).cell 1 _ rfl
    have hn2 : ∀ n, ((w.drewN n).alloc (.cells #[.int .i64 0, .string ⟨#[]⟩, .int .i64 0] 45)).cell? ⟨w.heap.size, 2, none⟩ = some (.int .i64 0) := fun n => (hn n).cell 2 _ rfl
    have hm0 : ∀ n, ((w.drewN n).alloc (.cells #[.int .i64 0, .string ⟨#[]⟩, .int .i64 0] 45)).frozen? ⟨w.heap.size, 0, none⟩ = false := fun n => (hn n).frozen 0
    have hm1 : ∀ n, ((w.drewN n).alloc (.cells #[.int .i64 0, .string ⟨#[]⟩, .int .i64 0] 45)).frozen? ⟨w.heap.size, 1, none⟩ = false := fun n => (hn n).frozen 1
    have hm2 : ∀ n, ((w.drewN n).alloc (.cells #[.int .i64 0, .string ⟨#[]⟩, .int .i64 0] 45)).frozen? ⟨w.heap.size, 2, none⟩ = false := fun n => (hn n).frozen 2
    go_region
    have hbe : Below w.heap.size w (((((w.drewN (nq + 1)).alloc (.cells #[.int .i64 0, .string ⟨#[]⟩, .int .i64 0] 45)).setCell ⟨w.heap.size, 0, none⟩ (.int .i64 t.kind)).setCell ⟨w.heap.size, 1, none⟩ (.string t.text)).setCell ⟨w.heap.size, 2, none⟩ (.int .i64 t.pos)) :=
      setAll_below _ _ (Nat.le_refl _) [.int .i64 t.kind, .string t.text, .int .i64 t.pos] 0 _ _ ((below_draws w.heap.size w (nq + 1)).alloc (Nat.le_refl _) _)
    have hcl : Cells (((((w.drewN (nq + 1)).alloc (.cells #[.int .i64 0, .string ⟨#[]⟩, .int .i64 0] 45)).setCell ⟨w.heap.size, 0, none⟩ (.int .i64 t.kind)).setCell ⟨w.heap.size, 1, none⟩ (.string t.text)).setCell ⟨w.heap.size, 2, none⟩ (.int .i64 t.pos)) w.heap.size #[.int .i64 t.kind, .string t.text, .int .i64 t.pos] 45 := Cells.put [.int .i64 t.kind, .string t.text, .int .i64 t.pos] 0 (hn (nq + 1))
    generalize (((((w.drewN (nq + 1)).alloc (.cells #[.int .i64 0, .string ⟨#[]⟩, .int .i64 0] 45)).setCell ⟨w.heap.size, 0, none⟩ (.int .i64 t.kind)).setCell ⟨w.heap.size, 1, none⟩ (.string t.text)).setCell ⟨w.heap.size, 2, none⟩ (.int .i64 t.pos)) = W1 at hbe hcl ⊢
    have hl1 := hcl.lt
    have HBE := Lib.hid hbe
    clear hbe ha ha0 ha1 hb0 hb1 hb2 hn hn0 hn1 hn2 hm0 hm1 hm2 c0 c1 c2 hcc0 hcc1 hcc2 hcf0 hcf1 hcf2 hc h
    have hclc0 := hcl.cell 0 _ rfl
    have hclf0 := hcl.frozen 0
    have hclc1 := hcl.cell 1 _ rfl
    have hclf1 := hcl.frozen 1
    have hclc2 := hcl.cell 2 _ rfl
    have hclf2 := hcl.frozen 2
    clear hcl
    by_cases h4 : t.kind = 4
    · have h4b : (t.kind == 4) = true := by rw [beq_iff_eq]; exact h4
      by_cases hs : t.text = s
      · subst hs
        have H4 := Lib.hid h4
        clear h4
        go_wp2
        go_ret
        exact ⟨ret_bool (by simp [H4.out]), HBE.out⟩
      · have hx := str_ne hs
        have HS := Lib.hid hs
        clear h4 hs
        go_wp2
        go_ret
        exact ⟨ret_bool (by simp [HS.out]), HBE.out⟩
    · have hx : (t.kind == 4) = false := by rw [beq_eq_false_iff_ne]; exact h4
      have H4 := Lib.hid h4
      clear h4
      go_wp2
      go_ret
      exact ⟨ret_bool (by simp [H4.out]), HBE.out⟩

set_option maxHeartbeats 2000000 in
set_option maxRecDepth 100000 in
theorem fail_ok (w : World) (g : Nat) (lv : Value) (k e : Int) (hc : PrC w g lv k 0) :
    Calls Tryz.prog 101 #[.pointer (some ⟨g, 0, none⟩), .int .i64 e] w fun r w' => r = .returned (.tuple #[]) ∧ PrC w' g lv k e ∧ Save g w w' := by
  have hlt := hc.lt
  have hq := hc.setI 2 (.int .i64 e)
  have HQ := Lib.hid hq
  clear hq
  have hcc0 := hc.cell 0 _ rfl
  have hcf0 := hc.frozen 0
  have hcc1 := hc.cell 1 _ rfl
  have hcf1 := hc.frozen 1
  have hcc2 := hc.cell 2 _ rfl
  have hcf2 := hc.frozen 2
  go_enter Tryz.func101, Tryz.ntmps101
  go_wp2
  (first | go_end0 | refine bodyPost_ret (results_none rfl _ _ _) rfl ?_)
  exact ⟨rfl, HQ.out, (Save.refl g w).set 2 _⟩
set_option maxHeartbeats 2000000 in
set_option maxRecDepth 100000 in
theorem fail_no (w : World) (g : Nat) (lv : Value) (k e e2 : Int) (hc : PrC w g lv k e) (he : e ≠ 0) :
    Calls Tryz.prog 101 #[.pointer (some ⟨g, 0, none⟩), .int .i64 e2] w fun r w' => r = .returned (.tuple #[]) ∧ w = w' := by
  have hlt := hc.lt
  have hne : (e == 0) = false := by simpa using he
  have hcc0 := hc.cell 0 _ rfl
  have hcf0 := hc.frozen 0
  have hcc1 := hc.cell 1 _ rfl
  have hcf1 := hc.frozen 1
  have hcc2 := hc.cell 2 _ rfl
  have hcf2 := hc.frozen 2
  go_enter Tryz.func101, Tryz.ntmps101
  go_wp2
  (first | go_end0 | refine bodyPost_ret (results_none rfl _ _ _) rfl ?_)
  exact ⟨rfl, rfl⟩

/-- What wrong says of a place. -/
def wrE (r : List Tok) : Int := if r = [] then 2 else 3
theorem wrE_ne (r : List Tok) : wrE r ≠ 0 := by unfold wrE; split <;> decide
theorem badX_e (r : List Tok) (n : Nat) : badX r n = (zeroX, n, wrE r) := by unfold badX wrE; split <;> rfl
set_option maxHeartbeats 2000000 in
set_option maxRecDepth 100000 in
theorem wrong_ok (w : World) (g : Nat) (lv : Value) (l : List Tok) (k : Nat) (h : Prs w g lv l k) :
    Calls Tryz.prog 102 #[.pointer (some ⟨g, 0, none⟩)] w fun r w' => r = .returned (.tuple #[]) ∧ PrC w' g lv (k : Nat) (wrE (l.drop k)) ∧ Save g w w' := by
  have hc := h.box
  have hlt := hc.lt
  obtain ⟨a, c, rfl, hl1, hl2, -⟩ := h.toks.len
  have hle := h.le
  have hF := fun n => fail_ok (w.drewN n) g (.slice a l.length c) (k : Nat) (wrE (l.drop k)) (hc.drewN n)
  by_cases hk : k = l.length
  · have hw : wrE (l.drop k) = 2 := by rw [hk, List.drop_length]; rfl
    rw [hw] at hF ⊢
    have hq : ((k : Int) == (l.length : Int)) = true := by rw [beq_iff_eq]; omega
    clear hk h hw
    have hcc0 := hc.cell 0 _ rfl
    have hcf0 := hc.frozen 0
    have hcc1 := hc.cell 1 _ rfl
    have hcf1 := hc.frozen 1
    have hcc2 := hc.cell 2 _ rfl
    have hcf2 := hc.frozen 2
    go_enter Tryz.func102, Tryz.ntmps102
    go_wp2_with fail
    go_quiet (fail)
    go_wp2_with fail
    refine (hF _).mono ?_
    rintro _ w2 ⟨rfl, hc2, hs2⟩
    go_wp2
    (first | go_end0 | refine bodyPost_ret (results_none rfl _ _ _) rfl ?_)
    exact ⟨rfl, hc2, (Save.of (below_draws _ _ _)).trans hs2⟩
  · have hw : wrE (l.drop k) = 3 := by
      unfold wrE
      rw [if_neg (by rw [List.drop_eq_nil_iff]; omega)]
    rw [hw] at hF ⊢
    have hq : ((k : Int) == (l.length : Int)) = false := by rw [beq_eq_false_iff_ne]; omega
    clear hk h hw
    have hcc0 := hc.cell 0 _ rfl
    have hcf0 := hc.frozen 0
    have hcc1 := hc.cell 1 _ rfl
    have hcf1 := hc.frozen 1
    have hcc2 := hc.cell 2 _ rfl
    have hcf2 := hc.frozen 2
    go_enter Tryz.func102, Tryz.ntmps102
    go_wp2_with fail
    go_quiet (fail)
    go_wp2_with fail
    refine (hF _).mono ?_
    rintro _ w2 ⟨rfl, hc2, hs2⟩
    go_wp2
    (first | go_end0 | refine bodyPost_ret (results_none rfl _ _ _) rfl ?_)
    exact ⟨rfl, hc2, (Save.of (below_draws _ _ _)).trans hs2⟩
set_option maxHeartbeats 2000000 in
set_option maxRecDepth 100000 in
theorem wrong_no (w : World) (g : Nat) (lv : Value) (k e : Int) (hc : PrC w g lv k e) (he : e ≠ 0) (hl : ∃ a n c, lv = .slice a n c) :
    Calls Tryz.prog 102 #[.pointer (some ⟨g, 0, none⟩)] w fun r w' => r = .returned (.tuple #[]) ∧ ∃ n, w' = w.drewN n := by
  obtain ⟨a, n, c, rfl⟩ := hl
  have hlt := hc.lt
  have hF := fun m e2 => fail_no (w.drewN m) g (.slice a n c) k e e2 (hc.drewN m) he
  cases hq : (k == (n : Int))
  all_goals
    have hcc0 := hc.cell 0 _ rfl
    have hcf0 := hc.frozen 0
    have hcc1 := hc.cell 1 _ rfl
    have hcf1 := hc.frozen 1
    have hcc2 := hc.cell 2 _ rfl
    have hcf2 := hc.frozen 2
    go_enter Tryz.func102, Tryz.ntmps102
    go_wp2_with fail
    go_quiet (fail)
    go_wp2_with fail
    refine (hF _ _).mono ?_
    rintro _ _ ⟨rfl, hw1⟩
    cases hw1
    go_wp2
    (first | go_end0 | refine bodyPost_ret (results_none rfl _ _ _) rfl ?_)
    exact ⟨rfl, _, rfl⟩

set_option maxHeartbeats 2000000 in
set_option maxRecDepth 100000 in
theorem into_yes (w : World) (g : Nat) (lv : Value) (k d : Nat) (hc : PrC w g lv (k : Nat) 0) (hd : d < 64) (hk : k ≤ 1000000) :
    Calls Tryz.prog 78 #[.pointer (some ⟨g, 0, none⟩), .int .i64 ((d : Int) + 1)] w fun r w' => r = .returned (.bool true) ∧ PrC w' g lv ((k + 1 : Nat)) 0 ∧ Save g w w' := by
  have hlt := hc.lt
  have HQ := Lib.hid (hc.setI 1 (.int .i64 ((k : Int) + 1)))
  have hcc0 := hc.cell 0 _ rfl
  have hcf0 := hc.frozen 0
  have hcc1 := hc.cell 1 _ rfl
  have hcf1 := hc.frozen 1
  have hcc2 := hc.cell 2 _ rfl
  have hcf2 := hc.frozen 2
  go_enter Tryz.func78, Tryz.ntmps78
  go_wp2
  go_ret
  exact ⟨rfl, HQ.out, (Save.refl g w).set 1 _⟩
set_option maxHeartbeats 2000000 in
set_option maxRecDepth 100000 in
theorem into_no (w : World) (g : Nat) (lv : Value) (k d : Nat) (hc : PrC w g lv (k : Nat) 0) (hd : 64 ≤ d) :
    Calls Tryz.prog 78 #[.pointer (some ⟨g, 0, none⟩), .int .i64 ((d : Int) + 1)] w fun r w' => r = .returned (.bool false) ∧ PrC w' g lv (k : Nat) 5 ∧ Save g w w' := by
  have hF := fail_ok w g lv (k : Nat) 5 hc
  go_enter Tryz.func78, Tryz.ntmps78
  go_wp2_with fail
  refine hF.mono ?_
  rintro _ w2 ⟨rfl, hc2, hs2⟩
  go_wp2
  go_ret
  exact ⟨rfl, hc2, hs2⟩

/-- What need makes of a parser: it stands behind the sign, or has failed there. -/
def needE (r : List Tok) (s : ByteArray) : Int := if isS r s then 0 else wrE r
set_option maxHeartbeats 2000000 in
set_option maxRecDepth 100000 in
theorem need_ok (w : World) (g : Nat) (lv : Value) (l : List Tok) (k : Nat) (s : ByteArray) (h : Prs w g lv l k) :
    Calls Tryz.prog 79 #[.pointer (some ⟨g, 0, none⟩), .string s] w fun r w' => r = .returned (.tuple #[]) ∧
      PrC w' g lv ((if isS (l.drop k) s then k + 1 else k : Nat)) (if isS (l.drop k) s then 0 else wrE (l.drop k)) ∧ Save g w w' := by
  have hI := is_ok w g lv l k s h
  have hkl := h.le
  have hsm := h.small
  cases hs : isS (l.drop k) s with
  | true =>
    rw [hs] at hI
    go_enter Tryz.func79, Tryz.ntmps79
    go_wp2_with fail
    refine hI.mono ?_
    rintro _ w2 ⟨rfl, hb2⟩
    have hc2 := h.box.below hb2 h.box.lt
    have hlt := hc2.lt
    have HQ := Lib.hid (hc2.setI 1 (.int .i64 ((k : Int) + 1)))
    have HB := Lib.hid (Save.of (g := g) hb2)
    clear hb2 hs hI
    have hc2c0 := hc2.cell 0 _ rfl
    have hc2f0 := hc2.frozen 0
    have hc2c1 := hc2.cell 1 _ rfl
    have hc2f1 := hc2.frozen 1
    have hc2c2 := hc2.cell 2 _ rfl
    have hc2f2 := hc2.frozen 2
    clear hc2
    go_wp2
    (first | go_end0 | refine bodyPost_ret (results_none rfl _ _ _) rfl ?_)
    exact ⟨rfl, HQ.out, HB.out.set 1 _⟩
  | false =>
    rw [hs] at hI
    go_enter Tryz.func79, Tryz.ntmps79
    go_wp2_with fail
    refine hI.mono ?_
    rintro _ w2 ⟨rfl, hb2⟩
    have hs2 := Save.of (g := g) hb2
    have hW := wrong_ok w2 g lv l k (h.go hs2 (h.box.below hb2 h.box.lt) h.le)
    go_wp2_with fail
    refine hW.mono ?_
    rintro _ w3 ⟨rfl, hc3, hs3⟩
    go_wp2
    (first | go_end0 | refine bodyPost_ret (results_none rfl _ _ _) rfl ?_)
    exact ⟨rfl, hc3, hs2.trans hs3⟩
set_option maxHeartbeats 2000000 in
set_option maxRecDepth 100000 in
theorem need_no (w : World) (g : Nat) (lv : Value) (k e : Int) (s : ByteArray) (hc : PrC w g lv k e) (he : e ≠ 0) (hl : ∃ a n c, lv = .slice a n c) :
    Calls Tryz.prog 79 #[.pointer (some ⟨g, 0, none⟩), .string s] w fun r w' => r = .returned (.tuple #[]) ∧ ∃ n, w' = w.drewN n := by
  have hI := is_no w g lv k e s hc he hl
  have hW := fun n => wrong_no (w.drewN n) g lv k e (hc.drewN n) he hl
  go_enter Tryz.func79, Tryz.ntmps79
  go_wp2_with fail
  refine hI.mono ?_
  rintro _ _ ⟨rfl, n, rfl⟩
  go_wp2_with fail
  refine (hW n).mono ?_
  rintro _ _ ⟨rfl, m, rfl⟩
  go_wp2
  (first | go_end0 | refine bodyPost_ret (results_none rfl _ _ _) rfl ?_)
  exact ⟨rfl, n + m, rfl⟩
end Go.Proofs.YthmmgpbojbjihaaGreatDoor

/- The levels of Ops: both sides; the parser's rank (layer 12). -/
namespace Go.Proofs.YthmmgpbojbjihaaGreatDoor
open Go.RowKit Go.Tab

theorem lv_cases (s : ByteArray) : (∃ x ∈ lvTab, s = strL x.1 ∧ lvN s = x.2) ∨ (lvN s = -1 ∧ ∀ x ∈ lvTab, s ≠ strL x.1) := by
  unfold lvN
  cases hf : lvTab.find? (fun x => x.1 == s.data.toList) with
  | some x =>
    refine .inl ⟨x, List.mem_of_find?_eq_some hf, ?_, rfl⟩
    have h1 := List.find?_some hf
    simp only [beq_iff_eq] at h1
    rw [h1]; exact strL_of s
  | none =>
    refine .inr ⟨rfl, fun x hx e => ?_⟩
    have h1 := List.find?_eq_none.1 hf x hx
    rw [e, strL_list] at h1
    simp at h1
def btN (s : ByteArray) : Int := if 1 ≤ lvN s ∧ lvN s ≤ 6 then lvN s else 0
theorem fresh (s : ByteArray) (h : ∀ x ∈ lvTab, s ≠ strL x.1) (l : Bs) (hl : l ∈ lvTab.map (·.1)) : (s.toList == l) = false := by
  obtain ⟨x, hx, rfl⟩ := List.mem_map.1 hl
  have h1 := str_ne (h x hx)
  rw [show (strL x.1).toList = x.1 by rw [ByteArray.toList_eq]; rfl] at h1
  exact h1
set_option maxHeartbeats 4000000 in
set_option maxRecDepth 100000 in
theorem between_any (s : ByteArray) (w : World) : Calls Tryz.prog 100 #[.string s] w fun e w' => e = .returned (.int .i64 (btN s)) ∧ w = w' := by
  unfold btN
  rcases lv_cases s with ⟨x, hx, rfl, hv⟩ | ⟨hv, h⟩
  · rw [hv]
    clear hv
    simp only [lvTab, List.mem_cons, List.not_mem_nil, or_false] at hx
    rcases hx with rfl | rfl | rfl | rfl | rfl | rfl | rfl | rfl | rfl | rfl | rfl | rfl | rfl | rfl | rfl | rfl | rfl | rfl | rfl | rfl | rfl | rfl | rfl
    all_goals
      simp only [strL]
      go_enter Tryz.func100, Tryz.ntmps100
      go_wp2
      go_ret
      exact ⟨rfl, rfl⟩
  · rw [hv]
    have n0 := fresh s h [63] (by decide)
    have n1 := fresh s h [124, 124] (by decide)
    have n2 := fresh s h [38, 38] (by decide)
    have n3 := fresh s h [61, 61] (by decide)
    have n4 := fresh s h [33, 61] (by decide)
    have n5 := fresh s h [60] (by decide)
    have n6 := fresh s h [62] (by decide)
    have n7 := fresh s h [60, 61] (by decide)
    have n8 := fresh s h [62, 61] (by decide)
    have n9 := fresh s h [43] (by decide)
    have n10 := fresh s h [45] (by decide)
    have n11 := fresh s h [42] (by decide)
    have n12 := fresh s h [47] (by decide)
    have n13 := fresh s h [37] (by decide)
    have n14 := fresh s h [33] (by decide)
    have n15 := fresh s h [110, 101, 103] (by decide)
    have n16 := fresh s h [103, 101, 116] (by decide)
    have n17 := fresh s h [97, 116] (by decide)
    have n18 := fresh s h [110, 97, 109, 101] (by decide)
    have n19 := fresh s h [99, 97, 108, 108] (by decide)
    have n20 := fresh s h [110, 117, 109] (by decide)
    have n21 := fresh s h [116, 101, 120, 116] (by decide)
    have n22 := fresh s h [108, 105, 115, 116] (by decide)
    clear hv h
    go_enter Tryz.func100, Tryz.ntmps100
    go_wp2
    go_ret
    exact ⟨rfl, rfl⟩
end Go.Proofs.YthmmgpbojbjihaaGreatDoor

/- The parser's rank (layer 12). -/
namespace Go.Proofs.YthmmgpbojbjihaaGreatDoor
open Go.RowKit Go.Tab

theorem drewN_two (w : World) (n m : Nat) : ∃ q, (w.drewN n).drewN m = w.drewN q := ⟨n + m, World.drewN_drewN _ _ _⟩
def rkN (r : List Tok) : Int := match r with
  | [] => 0
  | t :: _ => if t.kind = 4 then btN t.text else 0
theorem btN_iff {s : ByteArray} {lv : Nat} (h1 : 1 ≤ lv) (h6 : lv ≤ 6) : btN s = lv ↔ lvN s = lv := by
  unfold btN
  split <;> constructor <;> intro h <;> omega
theorem rkN_iff {r : List Tok} {lv : Nat} (h1 : 1 ≤ lv) (h6 : lv ≤ 6) : rkN r = lv ↔ ∃ o, isL r lv = some o := by
  unfold rkN isL
  cases r with
  | nil =>
    constructor
    · intro h; simp only at h; omega
    · rintro ⟨o, h⟩; cases h
  | cons t r =>
    simp only
    by_cases hk : t.kind = 4
    · rw [if_pos hk, btN_iff h1 h6]
      constructor
      · intro h; exact ⟨t.text, by rw [if_pos ⟨hk, h⟩]⟩
      · rintro ⟨o, h⟩
        split at h
        · next hc => exact hc.2
        · cases h
    · rw [if_neg hk]
      constructor
      · intro h; omega
      · rintro ⟨o, h⟩
        rw [if_neg (fun hc => hk hc.1)] at h
        cases h
theorem isL_text {r : List Tok} {lv : Nat} {o : ByteArray} (h : isL r lv = some o) : ∃ t q, r = t :: q ∧ t.text = o := by
  unfold isL at h
  cases r with
  | nil => cases h
  | cons t q =>
    simp only at h
    split at h
    · cases h; exact ⟨t, q, rfl, rfl⟩
    · cases h

set_option maxHeartbeats 2000000 in
set_option maxRecDepth 100000 in
theorem rank_no (w : World) (g : Nat) (lv : Value) (k e : Int) (hc : PrC w g lv k e) (he : e ≠ 0) (hl : ∃ a n c, lv = .slice a n c) :
    Calls Tryz.prog 76 #[.pointer (some ⟨g, 0, none⟩)] w fun r w' => r = .returned (.int .i64 0) ∧ ∃ n, w' = w.drewN n := by
  obtain ⟨a, n, c, rfl⟩ := hl
  have hlt := hc.lt
  have hne : (e != 0) = true := by simpa using he
  have hcc0 := hc.cell 0 _ rfl
  have hcf0 := hc.frozen 0
  have hcc1 := hc.cell 1 _ rfl
  have hcf1 := hc.frozen 1
  have hcc2 := hc.cell 2 _ rfl
  have hcf2 := hc.frozen 2
  go_enter Tryz.func76, Tryz.ntmps76
  go_wp2_with fail
  go_quiet (fail)
  go_wp2
  go_ret
  exact ⟨rfl, _, rfl⟩
set_option maxHeartbeats 2000000 in
set_option maxRecDepth 100000 in
theorem rank_ok (w : World) (g : Nat) (lv : Value) (l : List Tok) (k : Nat) (h : Prs w g lv l k) :
    Calls Tryz.prog 76 #[.pointer (some ⟨g, 0, none⟩)] w fun r w' => r = .returned (.int .i64 (rkN (l.drop k))) ∧ ∃ n, w' = w.drewN n := by
  have hc := h.box
  have hlt := hc.lt
  obtain ⟨a, c, rfl, hl1, hl2, -⟩ := h.toks.len
  unfold maxLen at hl2
  have hle := h.le
  by_cases hk : k = l.length
  · have hr : rkN (l.drop k) = 0 := by rw [hk, List.drop_length]; rfl
    rw [hr]
    have hqk : ((k : Int) == (l.length : Int)) = true := by rw [beq_iff_eq]; omega
    clear hk hr h
    have hcc0 := hc.cell 0 _ rfl
    have hcf0 := hc.frozen 0
    have hcc1 := hc.cell 1 _ rfl
    have hcf1 := hc.frozen 1
    have hcc2 := hc.cell 2 _ rfl
    have hcf2 := hc.frozen 2
    go_enter Tryz.func76, Tryz.ntmps76
    go_wp2_with fail
    go_quiet (fail)
    go_wp2
    go_ret
    exact ⟨rfl, _, rfl⟩
  · have hkl : k < l.length := by omega
    obtain ⟨b, off, rfl, hb, c0, c1, c2⟩ := ToksAt.get h.toks hkl
    have hd : rkN (l.drop k) = if l[k].kind = 4 then btN l[k].text else 0 := by rw [List.drop_eq_getElem_cons hkl]; rfl
    rw [hd]
    have hqk : ((k : Int) == (l.length : Int)) = false := by rw [beq_eq_false_iff_ne]; omega
    generalize l[k] = t at *
    clear hd hk h
    by_cases h4 : t.kind = 4
    · rw [if_pos h4]
      have h4b : (t.kind != 4) = false := by rw [bne_eq_false_iff_eq]; exact h4
      have hB := between_any t.text
      clear h4
      have hcc0 := hc.cell 0 _ rfl
      have hcf0 := hc.frozen 0
      have hcc1 := hc.cell 1 _ rfl
      have hcf1 := hc.frozen 1
      have hcc2 := hc.cell 2 _ rfl
      have hcf2 := hc.frozen 2
      go_enter Tryz.func76, Tryz.ntmps76
      go_wp2_with fail
      go_quiet (fail)
      go_wp2_with fail
      go_quiet (exact (hB _).mono fun _ _ h => ⟨h.1, _, h.2.symm⟩)
      go_wp2
      go_ret
      exact ⟨rfl, drewN_two _ _ _⟩
    · rw [if_neg h4]
      have h4b : (t.kind != 4) = true := by rw [bne_iff_ne]; exact h4
      clear h4
      have hcc0 := hc.cell 0 _ rfl
      have hcf0 := hc.frozen 0
      have hcc1 := hc.cell 1 _ rfl
      have hcf1 := hc.frozen 1
      have hcc2 := hc.cell 2 _ rfl
      have hcf2 := hc.frozen 2
      go_enter Tryz.func76, Tryz.ntmps76
      go_wp2_with fail
      go_quiet (fail)
      go_wp2
      go_ret
      exact ⟨rfl, _, rfl⟩
end Go.Proofs.YthmmgpbojbjihaaGreatDoor

/- The parser of expressions: what its methods promise each other; a term of the highest level (layer 12). -/
namespace Go.Proofs.YthmmgpbojbjihaaGreatDoor
open Go.RowKit Go.Tab

/-- What a method that reads an expression brings about: r is what the tokens from k on are. -/
def XP (g : Nat) (lv : Value) (k : Nat) (r : GotX) (w : World) (e : Ending) (w' : World) : Prop :=
  Save g w w' ∧ PrC w' g lv ((k + r.2.1 : Nat)) r.2.2 ∧ ∃ o t a n c, e = .returned (exV o t (.slice a n c)) ∧ (r.2.2 = 0 → ExpIn (fun b => w.heap.size ≤ b) w' r.1 (expV o t (.slice a n c)))
/-- The boxes of the closure. -/
structure TBox (w : World) (g bp bd bt d : Nat) : Prop where
  p : Cells w bp #[.pointer (some ⟨g, 0, none⟩)] 96
  d : Cells w bd #[.int .i64 (d : Nat)] 3
  t : Cells w bt #[.func (.func 74) #[] #[.pointer (some ⟨bp, 0, none⟩), .pointer (some ⟨bd, 0, none⟩), .pointer (some ⟨bt, 0, none⟩)]] 99
  np : bp ≠ g
  nd : bd ≠ g
  nt : bt ≠ g
theorem TBox.save {w w' : World} {g bp bd bt d : Nat} (h : TBox w g bp bd bt d) (hs : Save g w w') : TBox w' g bp bd bt d :=
  ⟨hs.cells h.p h.np, hs.cells h.d h.nd, hs.cells h.t h.nt, h.np, h.nd, h.nt⟩
def ChoiceC (m : Nat) : Prop := ∀ (w : World) (g : Nat) (lv : Value) (l : List Tok) (k d : Nat), Prs w g lv l k → d ≤ 64 → (parX m .choice (l.drop k) d).2.2 ≠ -1 →
  Calls Tryz.prog 55 #[.pointer (some ⟨g, 0, none⟩), .int .i64 (d : Nat)] w (XP g lv k (parX m .choice (l.drop k) d) w)
def TermC (m : Nat) : Prop := ∀ (w : World) (g : Nat) (lv : Value) (l : List Tok) (k d n bp bd bt : Nat), Prs w g lv l k → TBox w g bp bd bt d → d ≤ 64 → 1 ≤ n → n ≤ 7 → (parX m (.term n) (l.drop k) d).2.2 ≠ -1 →
  Calls Tryz.prog 74 #[.int .i64 (n : Nat), .pointer (some ⟨bp, 0, none⟩), .pointer (some ⟨bd, 0, none⟩), .pointer (some ⟨bt, 0, none⟩)] w (XP g lv k (parX m (.term n) (l.drop k) d) w)
def TightC (m : Nat) : Prop := ∀ (w : World) (g : Nat) (lv : Value) (l : List Tok) (k d : Nat), Prs w g lv l k → d ≤ 64 → (parX m .tight (l.drop k) d).2.2 ≠ -1 →
  Calls Tryz.prog 75 #[.pointer (some ⟨g, 0, none⟩), .int .i64 (d : Nat)] w (XP g lv k (parX m .tight (l.drop k) d) w)
def PostC (m : Nat) : Prop := ∀ (w : World) (g : Nat) (lv : Value) (l : List Tok) (k d : Nat), Prs w g lv l k → d ≤ 64 → (parX m .post (l.drop k) d).2.2 ≠ -1 →
  Calls Tryz.prog 99 #[.pointer (some ⟨g, 0, none⟩), .int .i64 (d : Nat)] w (XP g lv k (parX m .post (l.drop k) d) w)
def PrimeC (m : Nat) : Prop := ∀ (w : World) (g : Nat) (lv : Value) (l : List Tok) (k d : Nat), Prs w g lv l k → d ≤ 64 → (parX m .prime (l.drop k) d).2.2 ≠ -1 →
  Calls Tryz.prog 112 #[.pointer (some ⟨g, 0, none⟩), .int .i64 (d : Nat)] w (XP g lv k (parX m .prime (l.drop k) d) w)
/-- A row of kids that many hands back. -/
def KidsX (B : Nat) (w : World) (kids : List Exp) (v : Value) : Prop := ∀ o t, ExpIn (fun b => B ≤ b) w (.mk o t kids) (expV o t v)
def ManyC (m : Nat) : Prop := ∀ (w : World) (g : Nat) (lv : Value) (l : List Tok) (k d : Nat) (s : ByteArray), Prs w g lv l k → 1 ≤ (l.drop k).length → d ≤ 64 → s = sRp ∨ s = sRb → (parX m (.many s) (l.drop k) d).2.2 ≠ -1 →
  Calls Tryz.prog 114 #[.pointer (some ⟨g, 0, none⟩), .int .i64 (d : Nat), .string s] w fun e w' =>
    Save g w w' ∧ PrC w' g lv ((k + (parX m (.many s) (l.drop k) d).2.1 : Nat)) (parX m (.many s) (l.drop k) d).2.2 ∧ ∃ a n c, e = .returned (.slice a n c) ∧ ((parX m (.many s) (l.drop k) d).2.2 = 0 → KidsX w.heap.size w' (parX m (.many s) (l.drop k) d).1.kids (.slice a n c))

theorem flat3_get : ∀ (L : List (Exp × List Value)) (_ : ∀ s ∈ L, s.2.length = 3) (k : Nat) (hk : k < L.length) (j : Nat) (_ : j < 3), (L.flatMap (·.2))[k * 3 + j]? = L[k].2[j]?
  | s :: r, h8, 0, _, j, hj => by
    have h := h8 s (by simp)
    simp only [List.flatMap_cons, Nat.zero_mul, Nat.zero_add, List.getElem_cons_zero]
    rw [List.getElem?_append_left (by omega)]
  | s :: r, h8, k + 1, hk, j, hj => by
    have h := h8 s (by simp)
    have ih := flat3_get r (fun x hx => h8 x (by simp [hx])) k (by simpa using hk) j hj
    simp only [List.flatMap_cons, List.getElem_cons_succ] at ih ⊢
    rw [List.getElem?_append_right (by omega), ← ih]
    congr 1
    omega
/-- An expression whose kids lie in a block that has just been made for them. -/
theorem node_new {B q : Nat} {w3 : World} {op text : ByteArray} {vals : List Value} (hB : B ≤ w3.heap.size) (kids : List (Exp × List Value)) (hk : ∀ s ∈ kids, ExpIn (fun b => B ≤ b ∧ b ≠ q) w3 s.1 s.2) (hm : kids.length ≤ maxLen) :
    ExpIn (fun b => B ≤ b) ((setAll w3 q 0 vals).alloc (.cells (kids.flatMap (·.2)).toArray 34)) (.mk op text (kids.map (·.1))) [.string op, .string text, .slice (some ⟨w3.heap.size, 0, none⟩) kids.length kids.length] := by
  have hlen : (kids.map (·.1)).length = kids.length := List.length_map ..
  have hc := Cells.new (setAll w3 q 0 vals) (kids.flatMap (·.2)).toArray 34
  rw [setAll_size] at hc
  have h3 : ∀ s ∈ kids, s.2.length = 3 := fun s hs => (hk s hs).len3
  have hn := ExpIn.node (base := B) (w := (setAll w3 q 0 vals).alloc (.cells (kids.flatMap (·.2)).toArray 34)) (o := op) (t := text) (kids := kids.map (·.1)) (b := w3.heap.size) (cap := kids.length) hB hc.lt (fun off => hc.frozen off) (by rw [hlen]; exact Nat.le_refl _) hm (fun k hkl => by
    rw [hlen] at hkl
    refine ⟨kids[k].2, fun j u hu => hc.cell _ _ ?_, ?_⟩
    · have hj : j < 3 := by have := (List.getElem?_eq_some_iff.1 hu).1; rw [h3 _ (List.getElem_mem hkl)] at this; exact this
      simp only [List.getElem?_toArray]
      rw [flat3_get kids h3 k hkl j hj]; exact hu
    · rw [List.getElem_map]
      refine ExpIn.move ?_ (fun b hb hlt => ?_) (fun b hb _ => hb.1) _ _ (hk _ (List.getElem_mem hkl))
      · rw [World.size_alloc, setAll_size]; omega
      · rw [Below.heap_alloc _ _ _ (by rw [setAll_size]; exact hlt), setAll_other _ _ _ _ _ hb.2])
  rw [hlen] at hn
  exact hn
theorem Prs.sl {w : World} {g : Nat} {lv : Value} {l : List Tok} {k : Nat} (h : Prs w g lv l k) : ∃ a n c, lv = .slice a n c := by
  obtain ⟨a, c, rfl, -⟩ := h.toks.len
  exact ⟨_, _, _, rfl⟩
end Go.Proofs.YthmmgpbojbjihaaGreatDoor
