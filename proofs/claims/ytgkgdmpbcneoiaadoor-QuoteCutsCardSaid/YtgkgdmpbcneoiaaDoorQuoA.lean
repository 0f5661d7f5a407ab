/- The walks of the smallest functions of layer 7: a throw, the next byte, the signs. -/
import Derived.Test.YtgkgdmpbcneoiaaDoorBld
import Derived.Test.YtgkgdmpbcneoiaaDoorQuoP
import Derived.Test.YtgkgdmpbcneoiaaDoorUtfD
import Derived.Deep.QuietTactic
import Derived.BigQuiet
namespace Go.Proofs.YtgkgdmpbcneoiaaDoor
open Go.RowKit Go.Tab

/-- What is thrown with error n. -/
abbrev failV (n : Int) : Value := .iface 37 (.agg #[.int .i64 n])
abbrev FailP (n : Int) : Ending := .panicked [{ v := failV n, recovered := false }]

set_option maxHeartbeats 800000 in
set_option maxRecDepth 100000 in
theorem fail_any (n : Int) (w : World) : Calls Tryd.prog 17 #[.int .i64 n] w fun e w' => e = FailP n ∧ w = w' := by
  go_enter Tryd.func17, Tryd.ntmps17
  go_wp2
  exact ⟨rfl, rfl, rfl⟩

/-- The reader: its text, where it stands, what it has told. -/
def RdrAt (w : World) (g : Nat) (s : ByteArray) (k : Nat) (l : List UInt8) : Prop :=
  ∃ cs, Bld 45 g w g 2 cs l ∧ cs.size = 4 ∧ cs[0]? = some (.string s) ∧ cs[1]? = some (.int .i64 (k : Int))
theorem in4 : BldIn 45 4 2 := ⟨by decide, by kernel_rfl, by decide⟩
theorem RdrAt.drewN {w : World} {g : Nat} {s : ByteArray} {k : Nat} {l : List UInt8} (h : RdrAt w g s k l) (n : Nat) : RdrAt (w.drewN n) g s k l := by
  obtain ⟨cs, ⟨h1, h2, v, h3, h4⟩, h5⟩ := h
  exact ⟨cs, ⟨h1.drewN n, h2, v, h3, h4.drewN n⟩, h5⟩
theorem RdrAt.lt {w : World} {g : Nat} {s : ByteArray} {k : Nat} {l : List UInt8} (h : RdrAt w g s k l) : g < w.heap.size := by
  obtain ⟨cs, h1, _⟩ := h; exact h1.cells.lt
/-- The place moves on. -/
theorem RdrAt.moved {w : World} {g : Nat} {s : ByteArray} {k : Nat} {l : List UInt8} (h : RdrAt w g s k l) (k' : Nat) : RdrAt (w.setCell ⟨g, 1, none⟩ (.int .i64 (k' : Int))) g s k' l := by
  obtain ⟨cs, ⟨h1, h2, v, h3, h4⟩, h5, h6, h7⟩ := h
  refine ⟨cs.set 1 (.int .i64 (k' : Int)) (by omega), ⟨h1.set 1 (by omega) _, ?_, v, ?_, h4.setOther _ _ (own_ne_box h4 h1 (by decide))⟩, by simpa using h5, ?_, by simp⟩
  · rwa [Array.getElem?_set_ne (by omega) (by omega)]
  · rwa [Array.getElem?_set_ne (by omega) (by omega)]
  · rwa [Array.getElem?_set_ne (by omega) (by omega)]
theorem below_moved {w : World} (g : Nat) (v : Value) : Below g w (w.setCell ⟨g, 1, none⟩ v) := (Below.refl g w).setCell (p := ⟨g, 1, none⟩) (Nat.le_refl _) v

/-- A method that hands v back; the reader stands at k', and has told l'. -/
def OkR (g : Nat) (s : ByteArray) (w : World) (v : Value) (k' : Nat) (l' : List UInt8) (e : Ending) (w' : World) : Prop :=
  e = .returned v ∧ RdrAt w' g s k' l' ∧ Below g w w' ∧ Beside 5 g w w'
/-- .. that throws error n. -/
def BadR (g : Nat) (w : World) (n : Int) (e : Ending) (w' : World) : Prop := e = FailP n ∧ Below g w w'

theorem Beside.drewN {E : TypeId} {g : Nat} {w w' : World} (h : Beside E g w w') (n : Nat) : Beside E g w (w'.drewN n) := h
theorem Below.drewN' {B : Nat} {w w' : World} (h : Below B w w') (n : Nat) : Below B w (w'.drewN n) := h.trans (below_draws B w' n)

set_option maxHeartbeats 1000000 in
set_option maxRecDepth 100000 in
theorem rnext_end (w : World) (g : Nat) (s : ByteArray) (k : Nat) (l : List UInt8) (h : RdrAt w g s k l) (hk : k = s.size) (hs : s.size ≤ 1000000) :
    Calls Tryd.prog 16 #[.pointer (some ⟨g, 0, none⟩)] w (BadR g w 2) := by
  obtain ⟨cs, hb, h5, h6, h7⟩ := h
  have c0 := hb.cells.cell 0 _ h6
  have c1 := hb.cells.cell 1 _ h7
  have hd : decide (s.size ≤ k) = true := by simp; omega
  clear hk hb h5 h6 h7
  go_enter Tryd.func16, Tryd.ntmps16
  go_wp2_with fail
  go_quiet (fail)
  go_wp2_with fail
  refine (fail_any 2 _).mono ?_
  rintro e w1 ⟨rfl, rfl⟩
  go_wp2
  exact ⟨rfl, rfl, Below.drewN' (Below.refl g w) _⟩

set_option maxHeartbeats 1000000 in
set_option maxRecDepth 100000 in
theorem rnext_any (w : World) (g : Nat) (s : ByteArray) (k : Nat) (l : List UInt8) (h : RdrAt w g s k l) (hk : k < s.size) (hs : s.size ≤ 1000000) :
    Calls Tryd.prog 16 #[.pointer (some ⟨g, 0, none⟩)] w (OkR g s w (.int .u8 ((s[k]'hk).toNat : Nat)) (k + 1) l) := by
  obtain ⟨cs, hb, h5, h6, h7⟩ := id h
  have c0 := hb.cells.cell 0 _ h6
  have c1 := hb.cells.cell 1 _ h7
  have f1 := hb.cells.frozen 1
  have hd : decide (s.size ≤ k) = false := by simp; omega
  have hlt := hb.cells.lt
  clear hb h5 h6 h7
  go_enter Tryd.func16, Tryd.ntmps16
  go_wp2_with fail
  go_quiet (fail)
  go_wp2_with fail
  go_quiet (fail)
  go_wp2
  go_ret
  exact ⟨rfl, ((h.drewN _).moved (k + 1)).drewN _, Below.drewN' ((Below.drewN' (Below.refl g w) _).setCell (p := ⟨g, 1, none⟩) (Nat.le_refl _) _) _, ((Beside.refl.drewN _).setCell 1 _).drewN _⟩

theorem drop_nil_iff {s : ByteArray} {k : Nat} (hk : k ≤ s.size) (h : (bs s).drop k = []) : k = s.size := by
  have := congrArg List.length h
  simp [bs_length] at this; omega
theorem rnext_nil (w : World) (g : Nat) (s : ByteArray) (k : Nat) (l : List UInt8) (h : RdrAt w g s k l) (hk : k ≤ s.size) (hr : (bs s).drop k = []) (hs : s.size ≤ 1000000) :
    Calls Tryd.prog 16 #[.pointer (some ⟨g, 0, none⟩)] w (BadR g w 2) := rnext_end w g s k l h (drop_nil_iff hk hr) hs
theorem rnext_cons (w : World) (g : Nat) (s : ByteArray) (k : Nat) (l : List UInt8) {c : Nat} {r : List Nat} (h : RdrAt w g s k l) (hr : (bs s).drop k = c :: r) (hs : s.size ≤ 1000000) :
    Calls Tryd.prog 16 #[.pointer (some ⟨g, 0, none⟩)] w (OkR g s w (.int .u8 (c : Int)) (k + 1) l) := by
  obtain ⟨hk, he⟩ := bs_at hr (j := 0) (by simp)
  have hk' : k < s.size := hk
  have e : (s[k]'hk').toNat = c := he
  have := rnext_any w g s k l h hk' hs
  rwa [e] at this
theorem drop_cons {l r : List Nat} {k c : Nat} (h : l.drop k = c :: r) : l.drop (k + 1) = r ∧ k < l.length := by
  refine ⟨?_, ?_⟩
  · rw [← List.drop_drop, h]; rfl
  · have := congrArg List.length h; simp at this; omega

theorem OkR.after {g : Nat} {s : ByteArray} {w w1 : World} {v : Value} {k : Nat} {l : List UInt8} {e : Ending} {w' : World} (hb : Below g w w1) (hB : Beside 5 g w w1) (h : OkR g s w1 v k l e w') : OkR g s w v k l e w' := ⟨h.1, h.2.1, hb.trans h.2.2.1, hB.trans h.2.2.2⟩
theorem BadR.after {g : Nat} {w w1 : World} {n : Int} {e : Ending} {w' : World} (hb : Below g w w1) (h : BadR g w1 n e w') : BadR g w n e w' := ⟨h.1, hb.trans h.2⟩

theorem or16 (a b : Nat) (h : a < 16777216) (hb : b < 16) : bits .or .i64 ((a : Int) * 16) (b : Int) = ((a * 16 + b : Nat) : Int) := by
  have := i64_or_nat (a * 16) b (by omega) (by omega)
  push_cast at this
  rw [this, show a * 16 = 2 ^ 4 * a by omega, ← Nat.two_pow_add_eq_or_of_lt (by omega : b < 2 ^ 4)]

/-- What four tells, from the bytes r on. -/
def FourP (g : Nat) (s : ByteArray) (w : World) (k : Nat) (l : List UInt8) (r : List Nat) (e : Ending) (w' : World) : Prop :=
  ((unitQ r).2 = 0 ∧ OkR g s w (.int .i64 ((unitQ r).1 : Nat)) (k + 4) l e w') ∨ ((unitQ r).2 ≠ 0 ∧ BadR g w ((unitQ r).2 : Nat) e w')

theorem lim4 {j m : Nat} (hj : j < 4) (hm : m < 16 ^ j) : m < 4096 ∧ ∀ d, d < 16 → m * 16 + d < 16 ^ (j + 1) := by
  have : j = 0 ∨ j = 1 ∨ j = 2 ∨ j = 3 := by omega
  rcases this with rfl | rfl | rfl | rfl <;> simp at hm ⊢ <;> refine ⟨by omega, fun d hd => by omega⟩

set_option maxHeartbeats 2000000 in
set_option maxRecDepth 100000 in
theorem four_any (w : World) (g : Nat) (s : ByteArray) (k : Nat) (l : List UInt8) (h : RdrAt w g s k l) (hk : k ≤ s.size) (hs : s.size ≤ 1000000) :
    Calls Tryd.prog 42 #[.pointer (some ⟨g, 0, none⟩)] w (FourP g s w k l ((bs s).drop k)) := by
  go_enter Tryd.func42, Tryd.ntmps42
  go_wp2_with fail
  go_loopw [3, 5] (fun n i wr => ∃ (j m : Nat), j ≤ 4 ∧ n = .int .i64 m ∧ i = .int .i64 j ∧ m < 16 ^ j ∧ RdrAt wr g s (k + j) l ∧ k + j ≤ s.size ∧ Below g w wr ∧ Beside 5 g w wr ∧ unitF (4 - j) m ((bs s).drop (k + j)) = unitQ ((bs s).drop k)) (fun _ i _ => 4 - (intOf i).toNat)
  case atStart => exact ⟨0, 0, by omega, rfl, rfl, by simp, h, hk, Below.refl _ _, Beside.refl, rfl⟩
  case round =>
    obtain ⟨j, m, hj, rfl, rfl, hm, hR, hkj, hb, hB, hu⟩ := hrel
    by_cases hj4 : j < 4
    · obtain ⟨hm1, hm2⟩ := lim4 hj4 hm
      obtain ⟨i, hi⟩ : ∃ i, 4 - j = i + 1 := ⟨3 - j, by omega⟩
      rw [hi] at hu
      cases hr : (bs s).drop (k + j) with
      | nil =>
        rw [hr, unitF] at hu
        have HU := Lib.hid hu
        have hN := rnext_nil wr g s (k + j) l hR hkj hr hs
        clear hu hr hi hm2 hm
        go_wp2_with fail
        refine hN.mono ?_
        rintro e w1 ⟨rfl, hb1⟩
        go_wp2
        exact ⟨rfl, .inr ⟨by rw [← HU.out]; simp, by rw [← HU.out]; rfl, hb.trans hb1⟩⟩
      | cons c r =>
        obtain ⟨hd1, hd2⟩ := drop_cons hr
        rw [bs_length] at hd2
        have HR := Lib.hid (show (bs s).drop (k + (j + 1)) = r from hd1)
        have hc : c < 256 := bs_lt c (List.mem_of_mem_drop (by rw [hr]; simp))
        have hN := rnext_cons wr g s (k + j) l hR hr hs
        rw [hr] at hu
        simp only [unitF] at hu
        clear hd1
        by_cases h1 : 48 ≤ c ∧ c ≤ 57
        · obtain ⟨x, hx⟩ : ∃ x, x = m * 16 + (c - 48) := ⟨_, rfl⟩
          have ho : bits .or .i64 ((m : Int) * 16) ((c : Int) - 48) = (x : Int) := by
            have := or16 m (c - 48) (by omega) (by omega)
            rw [show (((c - 48 : Nat)) : Int) = (c : Int) - 48 by omega] at this
            rw [this, hx]
          have hx2 : x < 16 ^ (j + 1) := by rw [hx]; exact hm2 _ (by omega)
          rw [show hexV c = some (c - 48) by unfold hexV; rw [if_pos h1]] at hu
          simp only [← hx] at hu
          have HU := Lib.hid hu
          have HX2 := Lib.hid hx2
          clear hu hr hm2 hm hx2 hx
          have HI := Lib.hid hi
          clear hi
          go_wp2_with fail
          refine hN.mono ?_
          clear hN
          rintro e w1 ⟨rfl, hR1, hb1, hB1⟩
          go_wp2
          go_roundw
          case rel => exact ⟨j + 1, x, by omega, rfl, by go_num, HX2.out, hR1, by omega, hb.trans hb1, hB.trans hB1, by rw [show 4 - (j + 1) = i by have := HI.out; omega, HR.out]; exact HU.out⟩
          case measure => simp [intOf]; omega
        by_cases h2 : 97 ≤ c ∧ c ≤ 102
        · obtain ⟨x, hx⟩ : ∃ x, x = m * 16 + (c - 87) := ⟨_, rfl⟩
          have ho : bits .or .i64 ((m : Int) * 16) ((c : Int) - 97 + 10) = (x : Int) := by
            have := or16 m (c - 87) (by omega) (by omega)
            rw [show (((c - 87 : Nat)) : Int) = (c : Int) - 97 + 10 by omega] at this
            rw [this, hx]
          have hx2 : x < 16 ^ (j + 1) := by rw [hx]; exact hm2 _ (by omega)
          rw [show hexV c = some (c - 87) by unfold hexV; rw [if_neg h1, if_pos h2]] at hu
          simp only [← hx] at hu
          have HU := Lib.hid hu
          have HX2 := Lib.hid hx2
          clear hu hr hm2 hm hx2 hx
          have HI := Lib.hid hi
          clear hi
          go_wp2_with fail
          refine hN.mono ?_
          clear hN
          rintro e w1 ⟨rfl, hR1, hb1, hB1⟩
          go_wp2
          go_roundw
          case rel => exact ⟨j + 1, x, by omega, rfl, by go_num, HX2.out, hR1, by omega, hb.trans hb1, hB.trans hB1, by rw [show 4 - (j + 1) = i by have := HI.out; omega, HR.out]; exact HU.out⟩
          case measure => simp [intOf]; omega
        by_cases h3 : 65 ≤ c ∧ c ≤ 70
        · obtain ⟨x, hx⟩ : ∃ x, x = m * 16 + (c - 55) := ⟨_, rfl⟩
          have ho : bits .or .i64 ((m : Int) * 16) ((c : Int) - 65 + 10) = (x : Int) := by
            have := or16 m (c - 55) (by omega) (by omega)
            rw [show (((c - 55 : Nat)) : Int) = (c : Int) - 65 + 10 by omega] at this
            rw [this, hx]
          have hx2 : x < 16 ^ (j + 1) := by rw [hx]; exact hm2 _ (by omega)
          rw [show hexV c = some (c - 55) by unfold hexV; rw [if_neg h1, if_neg h2, if_pos h3]] at hu
          simp only [← hx] at hu
          have HU := Lib.hid hu
          have HX2 := Lib.hid hx2
          clear hu hr hm2 hm hx2 hx
          have HI := Lib.hid hi
          clear hi
          go_wp2_with fail
          refine hN.mono ?_
          clear hN
          rintro e w1 ⟨rfl, hR1, hb1, hB1⟩
          go_wp2
          go_roundw
          case rel => exact ⟨j + 1, x, by omega, rfl, by go_num, HX2.out, hR1, by omega, hb.trans hb1, hB.trans hB1, by rw [show 4 - (j + 1) = i by have := HI.out; omega, HR.out]; exact HU.out⟩
          case measure => simp [intOf]; omega
        · rw [show hexV c = none by unfold hexV; rw [if_neg h1, if_neg h2, if_neg h3]] at hu
          have HU := Lib.hid hu
          clear hu hr hm2 hm hi
          have h4 : c < 48 ∨ (58 ≤ c ∧ c ≤ 64) ∨ (71 ≤ c ∧ c ≤ 96) ∨ 103 ≤ c := by omega
          clear h1 h2 h3
          rcases h4 with h4 | h4 | h4 | h4
          all_goals
            go_wp2_with fail
            refine hN.mono ?_
            rintro e w1 ⟨rfl, hR1, hb1, hB1⟩
            go_wp2_with fail
            refine (fail_any 3 _).mono ?_
            rintro e w2 ⟨rfl, rfl⟩
            go_wp2
            exact ⟨rfl, .inr ⟨by rw [← HU.out]; simp, by rw [← HU.out]; rfl, hb.trans hb1⟩⟩
    · obtain rfl : j = 4 := by omega
      simp only [Nat.sub_self, unitF] at hu
      have HU := Lib.hid hu
      clear hu hm
      go_wp2
      go_ret
      exact .inl ⟨by rw [← HU.out], by rw [← HU.out]; rfl, hR, hb, hB⟩
end Go.Proofs.YtgkgdmpbcneoiaaDoor
