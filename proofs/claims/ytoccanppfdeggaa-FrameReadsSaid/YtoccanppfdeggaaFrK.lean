/- The walks of the reader's Take, Number, Byte, End (layer 5). -/
import Derived.Test.YtoccanppfdeggaaFrB
namespace Go.Proofs.Ytoccanppfdeggaa
open Go.RowKit Go.Tab

set_option maxHeartbeats 800000 in
set_option maxRecDepth 100000 in
theorem RTake_any (g : Nat) (b : Option Nat) (l : List UInt8) (e : Nat) (k : Int) (w : World) (h : RdAt w g b l e) (hlen : l.length ≤ 1000000) (hk : k ≤ 9223372036854775807) :
    Calls Try.prog 33 #[.pointer (some ⟨g, 0, none⟩), .int .i64 k] w fun x w' => ∃ out, x = .returned out ∧ OwnB w.heap.size w' out (rdTake k l e).1 ∧ RdAt w' g b (rdTake k l e).2.1 (rdTake k l e).2.2 ∧ w.grownBy w' (some g) := by
  have hkk := h
  obtain ⟨v, hc, hv, rfl, hne⟩ := h
  have h1 := hc.cell 1 _ rfl
  by_cases he : e = 0
  · subst he
    by_cases hbig : (l.length : Int) < max k 0
    · have hr : rdTake k l 0 = ([], l, 2) := by unfold rdTake; simp [hbig]
      have HR := Lib.hid hr
      have hf := hc.frozen 1
      have hk0 : 0 < k := by omega
      have hkl : (l.length : Int) < k := by omega
      clear hr hbig
      go_enter Try.func33, Try.ntmps33
      go_wp2_with fail
      refine (Left_any g _ l 0 w hkk).mono ?_
      rintro e2 w2 ⟨rfl, rfl⟩
      go_wp2
      go_ret
      rw [HR.out]
      exact ⟨_, rfl, OwnOf.nil, hkk.setE _, grownBy_setAt _ _ _ _⟩
    · obtain ⟨n, hn⟩ : ∃ n : Nat, max k 0 = (n : Int) := ⟨(max k 0).toNat, by omega⟩
      have hr : rdTake k l 0 = (l.take n, l.drop n, 0) := by
        unfold rdTake
        simp only [ne_eq, not_true_eq_false, if_false]
        rw [if_neg hbig, hn]; simp
      have HR := Lib.hid hr
      have hnl : 0 + n ≤ l.length := by omega
      have hcase : k < 0 ∧ n = 0 ∨ k = n := by omega
      clear hr hbig hn
      rcases hcase with ⟨hk0, rfl⟩ | rfl
      all_goals
        go_enter Try.func33, Try.ntmps33
        go_wp2_with fail
        refine (Left_any g _ l 0 w hkk).mono ?_
        rintro e2 w2 ⟨rfl, rfl⟩
        go_wp2_with fail
        refine (next_any g _ l 0 0 _ w hkk hnl hlen).mono ?_
        rintro e2 w2 ⟨out, rfl, ho2, hk2, hg2⟩
        go_wp2
        go_ret
        rw [HR.out]
        exact ⟨_, rfl, by simpa using ho2, by simpa using hk2, hg2⟩
  · have hbx : ((e : Int) != 0) = true := by simp; omega
    have hr : rdTake k l e = ([], l, e) := by unfold rdTake; simp [he]
    have HR := Lib.hid hr
    clear hr he
    go_enter Try.func33, Try.ntmps33
    go_wp2
    go_ret
    rw [HR.out]
    exact ⟨_, rfl, OwnOf.nil, hkk, World.grownBy.refl _ _⟩

set_option maxHeartbeats 800000 in
set_option maxRecDepth 100000 in
theorem RNumber_any (g : Nat) (b : Option Nat) (l : List UInt8) (e : Nat) (w : World) (h : RdAt w g b l e) (hlen : l.length ≤ 1000000) :
    Calls Try.prog 32 #[.pointer (some ⟨g, 0, none⟩)] w fun x w' => x = .returned (.int .u64 ((rdNum l e).1 : Nat)) ∧ RdAt w' g b (rdNum l e).2.1 (rdNum l e).2.2 ∧ w.grownBy w' (some g) := by
  have hkk := h
  obtain ⟨v, hc, hv, rfl, hne⟩ := h
  have h0 := hc.cell 0 _ rfl
  have h1 := hc.cell 1 _ rfl
  by_cases he : e = 0
  · subst he
    obtain ⟨N, s, x, hg⟩ : ∃ N s x, get l = (N, s, x) := ⟨_, _, _, rfl⟩
    have HG := Lib.hid hg
    by_cases hx : x = 0
    · subst hx
      have hs := (put_get hg).2.1
      have hr : rdNum l 0 = (N, l.drop s, 0) := by unfold rdNum; rw [hg]; simp
      have HR := Lib.hid hr
      clear hr hg
      go_enter Try.func32, Try.ntmps32
      go_wp2_with fail
      refine (Get_any _ l w hv).mono ?_
      rintro e2 w2 ⟨rfl, rfl⟩
      rw [HG.out]
      unfold getV
      go_wp2_with fail
      refine (next_any g _ l 0 s 0 w hkk (by omega) hlen).mono ?_
      rintro e2 w2 ⟨out, rfl, ho2, hk2, hg2⟩
      go_wp2
      go_ret
      rw [HR.out]
      exact ⟨rfl, hk2, hg2⟩
    · have hbx : ((x : Int) != 0) = true := by simp; omega
      have hr : rdNum l 0 = (0, l, x) := by unfold rdNum; rw [hg]; simp [hx]
      have HR := Lib.hid hr
      have hf := hc.frozen 1
      clear hx hg hr
      go_enter Try.func32, Try.ntmps32
      go_wp2_with fail
      refine (Get_any _ l w hv).mono ?_
      rintro e2 w2 ⟨rfl, rfl⟩
      rw [HG.out]
      unfold getV
      go_wp2
      go_ret
      rw [HR.out]
      exact ⟨rfl, hkk.setE _, grownBy_setAt _ _ _ _⟩
  · have hbx : ((e : Int) != 0) = true := by simp; omega
    have hr : rdNum l e = (0, l, e) := by unfold rdNum; simp [he]
    have HR := Lib.hid hr
    clear hr he
    go_enter Try.func32, Try.ntmps32
    go_wp2
    go_ret
    rw [HR.out]
    exact ⟨rfl, hkk, World.grownBy.refl _ _⟩

/-- The next byte; nought, if there is none. -/
def rdByte (l : List UInt8) (e : Nat) : Nat := match (rdTake 1 l e).1 with
  | [] => 0
  | c :: _ => c.toNat

set_option maxHeartbeats 800000 in
set_option maxRecDepth 100000 in
theorem RByte_any (g : Nat) (b : Option Nat) (l : List UInt8) (e : Nat) (w : World) (h : RdAt w g b l e) (hlen : l.length ≤ 1000000) :
    Calls Try.prog 30 #[.pointer (some ⟨g, 0, none⟩)] w fun x w' => x = .returned (.int .u8 (rdByte l e : Nat)) ∧ RdAt w' g b (rdTake 1 l e).2.1 (rdTake 1 l e).2.2 ∧ w.grownBy w' (some g) := by
  have hT := RTake_any g b l e 1 w h hlen (by decide)
  unfold rdByte
  generalize rdTake 1 l e = r at *
  obtain ⟨t, l2, e2⟩ := r
  cases t with
  | nil =>
    go_enter Try.func30, Try.ntmps30
    go_wp2_with fail
    refine hT.mono ?_
    rintro e3 w3 ⟨out, rfl, ho, hk, hg⟩
    obtain ⟨a, cap, rfl, -, -, -⟩ := ho.row.len
    go_wp2
    go_ret
    exact ⟨rfl, hk, hg⟩
  | cons c t =>
    go_enter Try.func30, Try.ntmps30
    go_wp2_with fail
    refine hT.mono ?_
    rintro e3 w3 ⟨out, rfl, ho, hk, hg⟩
    obtain ⟨a, cap, rfl, -, -, -⟩ := ho.row.len
    obtain ⟨bb, off, rfl, hb, hcell⟩ := ho.row.at (j := 0) (by simp)
    have hc0 := hcell 0 (by simp)
    simp only [Nat.add_zero, List.getElem_cons_zero] at hc0
    have hl1 : (c :: t).length = t.length + 1 := rfl
    have hbz : (((t.length : Int) + 1) == 0) = false := by rw [beq_eq_false_iff_ne]; omega
    go_wp2
    go_ret
    exact ⟨rfl, hk, hg⟩

def rdEnd (l : List UInt8) (e : Nat) : Nat := if e ≠ 0 then e else if l = [] then 0 else 14

set_option maxHeartbeats 800000 in
set_option maxRecDepth 100000 in
theorem REnd_any (g : Nat) (b : Option Nat) (l : List UInt8) (e : Nat) (w : World) (h : RdAt w g b l e) :
    Calls Try.prog 37 #[.pointer (some ⟨g, 0, none⟩)] w fun x w' => x = .returned (.int .i64 (rdEnd l e : Nat)) ∧ w = w' := by
  have hkk := h
  obtain ⟨v, hc, hv, rfl, hne⟩ := h
  have h1 := hc.cell 1 _ rfl
  unfold rdEnd
  by_cases he : e = 0
  · subst he
    rw [if_neg (by simp)]
    by_cases hl : l = []
    · subst hl
      go_enter Try.func37, Try.ntmps37
      go_wp2_with fail
      refine (Left_any g _ [] 0 w hkk).mono ?_
      rintro e2 w2 ⟨rfl, rfl⟩
      go_wp2
      go_ret
      exact ⟨rfl, rfl⟩
    · have hp := List.length_pos_iff.2 hl
      rw [if_neg hl]
      go_enter Try.func37, Try.ntmps37
      go_wp2_with fail
      refine (Left_any g _ l 0 w hkk).mono ?_
      rintro e2 w2 ⟨rfl, rfl⟩
      go_wp2
      go_ret
      exact ⟨rfl, rfl⟩
  · have hbx : ((e : Int) != 0) = true := by simp; omega
    rw [if_pos he]
    go_enter Try.func37, Try.ntmps37
    go_wp2
    go_ret
    exact ⟨rfl, rfl⟩
end Go.Proofs.Ytoccanppfdeggaa
