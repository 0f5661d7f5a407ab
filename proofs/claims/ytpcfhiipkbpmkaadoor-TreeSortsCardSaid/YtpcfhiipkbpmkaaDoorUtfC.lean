/- The walks of layer 2's Bad, Valid, Count. -/
import Derived.Test.YtpcfhiipkbpmkaaDoorUtfB
namespace Go.Proofs.YtpcfhiipkbpmkaaDoor
open Go.RowKit Go.Tab

def badV : Option Nat → Int
  | none => -1
  | some a => a
theorem badV_neg (o : Option Nat) : decide (badV o < 0) = o.isNone := by
  cases o with
  | none => rfl
  | some a =>
    rw [decide_eq_false (by simp [badV])]
    rfl
/-- What is told from place k on, behind what has been told. -/
def Rest (l : List Nat) (k : Nat) (pre : List (Nat × Nat)) : Prop := scan l 0 = (pre ++ (scan (l.drop k) k).1, (scan (l.drop k) k).2)
theorem Rest.zero (l : List Nat) : Rest l 0 [] := by simp [Rest]
theorem Rest.bad {l : List Nat} {k : Nat} {pre : List (Nat × Nat)} (h : Rest l k pre) (hk : k < l.length) (h1 : (oneN (l.drop k)).2 = 0) : scan l 0 = (pre, some k) := by
  have hne : l.drop k ≠ [] := by intro h; have := congrArg List.length h; simp at this; omega
  rw [h, scan_bad hne h1]; simp
theorem Rest.good {l : List Nat} {k c n : Nat} {pre : List (Nat × Nat)} (h : Rest l k pre) (hk : k < l.length) (h1 : oneN (l.drop k) = (c, n)) (hn : n ≠ 0) : Rest l (k + n) (pre ++ [(k, c)]) := by
  have hne : l.drop k ≠ [] := by intro h; have := congrArg List.length h; simp at this; omega
  unfold Rest at h ⊢
  rw [h, scan_good hne h1 hn, List.drop_drop]; simp
theorem Rest.done {l : List Nat} {k : Nat} {pre : List (Nat × Nat)} (h : Rest l k pre) (hk : k = l.length) : scan l 0 = (pre, none) := by
  rw [h, hk, List.drop_length, scan_nil]; simp

theorem scan_lt : ∀ (m : Nat) (l : List Nat) (a k : Nat), l.length ≤ m → (∀ x ∈ l, x < 256) → (scan l a).2 = some k → k < a + l.length
  | m, l, a, k, hm, hl, h => by
    by_cases h0 : l = []
    · subst h0; simp [scan_nil] at h
    have hp := List.length_pos_iff.2 h0
    by_cases hn : (oneN l).2 = 0
    · rw [scan_bad h0 hn] at h; simp at h; omega
    · have hle := (oneN_le l hl).1
      cases m with
      | zero => omega
      | succ m =>
        rw [scan_step h0, if_neg hn] at h
        have := scan_lt m (l.drop (oneN l).2) (a + (oneN l).2) k (by simp; omega) (fun x hx => hl x (List.mem_of_mem_drop hx)) h
        simp at this; omega

set_option maxHeartbeats 800000 in
set_option maxRecDepth 100000 in
theorem Bad_any (s : ByteArray) (w : World) (hT : Tab w) (hs : s.size ≤ 1048576) :
    Calls Tryd.prog 139 #[.string s] w fun e w' => e = .returned (.int .i64 (badV (scan (bs s) 0).2)) ∧ w = w' := by
  go_enter Tryd.func139, Tryd.ntmps139
  go_wp2_with fail
  go_loop [3] (fun i => ∃ (k : Nat) (pre : List (Nat × Nat)), i = .int .i64 k ∧ k ≤ s.size ∧ Rest (bs s) k pre) (fun i => s.size - (intOf i).toNat)
  case atStart => exact ⟨0, [], rfl, Nat.zero_le _, Rest.zero _⟩
  case round =>
    obtain ⟨k, pre, rfl, hk, hr⟩ := hrel
    have HR := Lib.hid hr
    clear hr
    by_cases h : k < s.size
    · obtain ⟨c, n, h1⟩ : ∃ c n, oneN ((bs s).drop k) = (c, n) := ⟨_, _, rfl⟩
      have hle := (oneN_le ((bs s).drop k) (fun x hx => bs_lt x (List.mem_of_mem_drop hx))).1
      have hF := first_any s k w hT hs
      unfold firstPost at hF
      rw [h1] at hF hle
      simp only [List.length_drop, bs_length] at hle
      have H1 := Lib.hid h1
      clear h1
      by_cases hn : n = 0
      · subst hn
        have h2 := Lib.hid (HR.out.bad (by rw [bs_length]; exact h) (by rw [H1.out]))
        go_wp2_with fail
        refine hF.mono ?_
        clear hF
        rintro e w1 ⟨rfl, rfl⟩
        go_wp2
        go_ret
        rw [h2.out]
        exact ⟨rfl, rfl⟩
      · have h2 := Lib.hid (HR.out.good (by rw [bs_length]; exact h) H1.out hn)
        have hb : ((n : Int) == 0) = false := by rw [beq_eq_false_iff_ne]; omega
        have hn1 : 1 ≤ n := by omega
        clear hn
        go_wp2_with fail
        refine hF.mono ?_
        clear hF
        rintro e w1 ⟨rfl, rfl⟩
        go_wp2
        go_round
        case rel => exact ⟨k + n, _, by go_num, by omega, h2.out⟩
        case measure => simp [intOf]; omega
    · have h2 := Lib.hid (HR.out.done (by rw [bs_length]; omega))
      go_wp2
      go_ret
      rw [h2.out]
      exact ⟨rfl, rfl⟩

set_option maxHeartbeats 800000 in
set_option maxRecDepth 100000 in
theorem Valid_any (s : ByteArray) (w : World) (hT : Tab w) (hs : s.size ≤ 1048576) :
    Calls Tryd.prog 109 #[.string s] w fun e w' => e = .returned (.bool (scan (bs s) 0).2.isNone) ∧ w = w' := by
  go_enter Tryd.func109, Tryd.ntmps109
  go_wp2_with fail
  refine (Bad_any s w hT hs).mono ?_
  rintro e w1 ⟨rfl, rfl⟩
  have h := badV_neg (scan (bs s) 0).2
  generalize badV (scan (bs s) 0).2 = b at *
  go_wp2
  go_ret
  exact ⟨rfl, rfl⟩

end Go.Proofs.YtpcfhiipkbpmkaaDoor
