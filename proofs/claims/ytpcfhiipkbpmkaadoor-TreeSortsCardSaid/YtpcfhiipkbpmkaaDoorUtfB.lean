/- The walk of layer 2's first. -/
import Derived.Test.YtpcfhiipkbpmkaaDoorUtfA
namespace Go.Proofs.YtpcfhiipkbpmkaaDoor
open Go.RowKit Go.Tab

abbrev firstPost (l : List Nat) (w : World) : Ending → World → Prop := fun e w' => e = .returned (.tuple #[.int .i64 (oneN l).1, .int .i64 (oneN l).2]) ∧ w = w'
theorem ret_first {a b : Int} {l : List Nat} {c n : Nat} (h : oneN l = (c, n)) (h1 : a = c) (h2 : b = n) : Ending.returned (.tuple #[.int .i64 a, .int .i64 b]) = .returned (.tuple #[.int .i64 (oneN l).1, .int .i64 (oneN l).2]) := by
  rw [h, h1, h2]

set_option maxHeartbeats 800000 in
set_option maxRecDepth 100000 in
theorem first_one (s : ByteArray) (i : Nat) (a : Nat) (r : List Nat) (w : World) (hT : Tab w) (hl : (bs s).drop i = a :: r) (hs : s.size ≤ 1048576) (h1 : a < 128) :
    Calls Tryd.prog 160 #[.string s, .int .i64 i] w (firstPost (a :: r) w) := by
  obtain ⟨h0, e0⟩ := bs_at hl (j := 0) (by simp)
  simp only [Nat.add_zero, List.getElem_cons_zero] at h0 e0
  have ho : oneN (a :: r) = (a, 1) := by simp [oneN, h1]
  have HO := Lib.hid ho
  have hc := hT (a / 8) (by omega)
  rw [size_same, show sizeOf8 a = 1 by simp [sizeOf8, h1]] at hc
  clear ho hl
  unfold firstPost
  go_enter Tryd.func160, Tryd.ntmps160
  go_wp2
  go_ret2
  exact ⟨ret_first HO.out rfl rfl, rfl⟩

theorem or64' (c b : Nat) (h : c < 131072) (hb : b < 256) : bits .or .i64 ((c : Int) * 64) ((b : Int) % 64) = ((c * 64 + b % 64 : Nat) : Int) := by
  have := or64 c (b % 64) (by omega) (by omega)
  simpa using this

set_option maxHeartbeats 4000000 in
set_option maxRecDepth 100000 in
theorem first_many (s : ByteArray) (i : Nat) (a n : Nat) (r : List Nat) (w : World) (hT : Tab w) (hl : (bs s).drop i = a :: r) (hs : s.size ≤ 1048576) (hsz : sizeOf8 a = n) (hn : n = 2 ∨ n = 3 ∨ n = 4) :
    Calls Tryd.prog 160 #[.string s, .int .i64 i] w (firstPost (a :: r) w) := by
  have hlt : ∀ x ∈ a :: r, x < 256 := by rw [← hl]; exact fun x hx => bs_lt x (List.mem_of_mem_drop hx)
  have ha := hlt a (by simp)
  have hi := Lib.hid (fun (j : Nat) (hj : j < (a :: r).length) => bs_at hl hj)
  have hlen : (a :: r).length = s.size - i := by rw [← hl]; simp [bs_length]
  simp only [List.length_cons] at hlen
  obtain ⟨h0, e0⟩ := hi.out 0 (by simp)
  simp only [Nat.add_zero, List.getElem_cons_zero] at h0 e0
  have ho := oneN_many hlt hsz (by omega)
  have hc := hT (a / 8) (by omega)
  rw [size_same, hsz] at hc
  clear hl
  unfold firstPost
  by_cases hsh : r.length < n - 1
  · rw [if_pos hsh] at ho
    have HO := Lib.hid ho
    have hd : (s.size : Int) - i < n := by omega
    clear ho hsh hlen hsz
    rcases hn with rfl | rfl | rfl
    all_goals
      go_enter Tryd.func160, Tryd.ntmps160
      go_wp2
      go_ret2
      exact ⟨ret_first HO.out rfl rfl, rfl⟩
  · rw [if_neg hsh] at ho
    have HO := Lib.hid ho
    have hd : (n : Int) ≤ (s.size : Int) - i := by omega
    have m1 := and31 a ha
    have m2 := and15 a ha
    have m3 := and7 a ha
    have hin : initOf a n < 32 := by unfold initOf; split <;> (try split) <;> omega
    have hrl : n - 1 ≤ r.length := by omega
    have HLT := Lib.hid hlt
    have hn1 : ((n : Int) == 1) = false := by rw [beq_eq_false_iff_ne]; omega
    have hn0 : ((n : Int) == 0) = false := by rw [beq_eq_false_iff_ne]; omega
    have hn4 : n ≤ 4 := by omega
    have hn2 : 2 ≤ n := by omega
    have hz : (n = 2 ∧ ((n : Int) == 2) = true ∧ initOf a n = a % 32) ∨ (n = 3 ∧ ((n : Int) == 2) = false ∧ ((n : Int) == 3) = true ∧ initOf a n = a % 16) ∨ (n = 4 ∧ ((n : Int) == 2) = false ∧ ((n : Int) == 3) = false ∧ initOf a n = a % 8) := by
      rcases hn with rfl | rfl | rfl
      · exact .inl ⟨rfl, rfl, rfl⟩
      · exact .inr (.inl ⟨rfl, rfl, rfl, rfl⟩)
      · exact .inr (.inr ⟨rfl, rfl, rfl, rfl⟩)
    clear ho hsh hlen hsz hlt hn
    have key : ∀ A : Nat, A = initOf a n → A < 32 := fun A h => by omega
    rcases hz with ⟨-, f2, hz⟩ | ⟨-, f2, f3, hz⟩ | ⟨-, f2, f3, hz⟩
    all_goals
      have HZ := Lib.hid hz
      clear hz
      go_enter Tryd.func160, Tryd.ntmps160
      go_wp2_with fail
      go_loop [4, 5, 7] (fun c z k => ∃ C K : Nat, c = .int .i64 C ∧ z = .int .i64 n ∧ k = .int .i64 K ∧ 1 ≤ K ∧ K ≤ n ∧ cont (initOf a n) (r.take (n - 1)) = cont C ((r.take (n - 1)).drop (K - 1)) ∧ Hid ((K = 1 → C < 32) ∧ (K = 2 → C < 2048) ∧ (K = 3 → C < 131072) ∧ C < 8388608)) (fun _ _ k => n - (intOf k).toNat)
      case atStart =>
        refine ⟨initOf a n, 1, by rw [HZ.out]; simp, rfl, rfl, by omega, by omega, by simp, ?_⟩
        have := hin
        exact Lib.hid (by omega)
      case round =>
        obtain ⟨C, K, rfl, rfl, rfl, hK1, hK2, hcont, hC⟩ := hrel
        by_cases hKn : K < n
        · have hKr : K < (a :: r).length := by simp; omega
          obtain ⟨h5, e5⟩ := hi.out K hKr
          have hel : (r.take (n - 1)).drop (K - 1) = (a :: r)[K] :: (r.take (n - 1)).drop K := by
            have h6 : K - 1 < (r.take (n - 1)).length := by simp; omega
            rw [List.drop_eq_getElem_cons h6]
            obtain ⟨j, rfl⟩ : ∃ j, K = j + 1 := ⟨K - 1, by omega⟩
            simp
          have hb := HLT.out _ (List.getElem_mem hKr)
          rw [hel] at hcont
          clear hel
          generalize (a :: r)[K] = b at e5 hb hcont
          have h5i : 0 ≤ (i : Int) + (K : Int) ∧ (i : Int) + (K : Int) < (s.size : Int) := by omega
          have m4 := and192 b hb
          have m5 := and63 b (by omega)
          by_cases hb2 : b / 64 = 2
          · have hCs : C < 131072 := by have := hC.out; omega
            have m6 := or64' C b hCs hb
            have m7 : ((b / 64 * 64 : Nat) : Int) = 128 := by omega
            rw [m7] at m4
            simp only [cont, hb2, if_true] at hcont
            have HC := Lib.hid hcont
            have HB : Hid ((K + 1 = 1 → C * 64 + b % 64 < 32) ∧ (K + 1 = 2 → C * 64 + b % 64 < 2048) ∧ (K + 1 = 3 → C * 64 + b % 64 < 131072) ∧ C * 64 + b % 64 < 8388608) := Lib.hid (by have := hC.out; omega)
            have hCw : C * 64 ≤ 8388607 := by omega
            clear hcont m7 hCs
            go_wp2
            go_round
            case rel => exact ⟨C * 64 + b % 64, K + 1, by go_num, rfl, by go_num, by omega, by omega, HC.out, HB⟩
            case measure => simp [intOf]; omega
          · have m7 : (((b / 64 * 64 : Nat) : Int) != 128) = true := by rw [bne_iff_ne]; omega
            simp only [cont, hb2, if_false] at hcont
            have HC := Lib.hid hcont
            have H5 := HO.out
            rw [HC.out] at H5
            have H6 := Lib.hid H5
            rw [← m4] at m7
            clear hcont H5
            go_wp2
            go_ret2
            exact ⟨ret_first H6.out rfl rfl, rfl⟩
        · obtain rfl : K = n := by omega
          have hd0 : (r.take (K - 1)).drop (K - 1) = [] := List.drop_of_length_le (by simp; omega)
          rw [hd0] at hcont
          simp only [cont] at hcont
          have H5 := HO.out
          rw [hcont] at H5
          simp only at H5
          clear hcont hd0
          by_cases hsc : isSc C = true
          · by_cases hw : wid C = K
            · rw [if_pos ⟨hsc, hw⟩] at H5
              have H6 := Lib.hid H5
              have hb1 : ((wid C : Nat) : Int) = (K : Int) := by rw [hw]
              have HB1 := Lib.hid hb1
              clear H5 hw hb1
              go_wp2_with fail
              refine (isScalar_any (C : Int) w).mono ?_
              rintro e1 w1 ⟨rfl, rfl⟩
              rw [isScI_nat, hsc]
              go_wp2_with fail
              refine (width_any C w).mono ?_
              rintro e1 w1 ⟨rfl, rfl⟩
              rw [HB1.out]
              go_wp2
              go_ret2
              exact ⟨ret_first H6.out rfl rfl, rfl⟩
            · rw [if_neg (fun h => hw h.2)] at H5
              have H6 := Lib.hid H5
              have hb1 : (((wid C : Nat) : Int) != (K : Int)) = true := by rw [bne_iff_ne]; omega
              clear H5 hw
              go_wp2_with fail
              refine (isScalar_any (C : Int) w).mono ?_
              rintro e1 w1 ⟨rfl, rfl⟩
              rw [isScI_nat, hsc]
              go_wp2_with fail
              refine (width_any C w).mono ?_
              rintro e1 w1 ⟨rfl, rfl⟩
              go_wp2
              go_ret2
              exact ⟨ret_first H6.out rfl rfl, rfl⟩
          · rw [if_neg (fun h => hsc h.1)] at H5
            have H6 := Lib.hid H5
            have hsf : isSc C = false := by simpa using hsc
            clear H5 hsc
            go_wp2_with fail
            refine (isScalar_any (C : Int) w).mono ?_
            rintro e1 w1 ⟨rfl, rfl⟩
            rw [isScI_nat, hsf]
            go_wp2
            go_ret2
            exact ⟨ret_first H6.out rfl rfl, rfl⟩

set_option maxHeartbeats 800000 in
set_option maxRecDepth 100000 in
theorem first_any (s : ByteArray) (i : Nat) (w : World) (hT : Tab w) (hs : s.size ≤ 1048576) :
    Calls Tryd.prog 160 #[.string s, .int .i64 i] w (firstPost ((bs s).drop i) w) := by
  obtain ⟨l, hl⟩ : ∃ l, (bs s).drop i = l := ⟨_, rfl⟩
  rw [hl]
  match l with
  | [] =>
    have h1 : s.size ≤ i := by have := congrArg List.length hl; simp [bs_length] at this; omega
    unfold firstPost
    go_enter Tryd.func160, Tryd.ntmps160
    go_wp2
    go_ret2
    exact ⟨rfl, rfl⟩
  | a :: r =>
    rcases sizeOf8_cases a with h | h | h
    · obtain ⟨h0, e0⟩ := bs_at hl (j := 0) (by simp)
      simp only [Nat.add_zero, List.getElem_cons_zero] at h0 e0
      have ha := bs_lt a (List.mem_of_mem_drop (i := i) (by rw [hl]; simp))
      have HO := Lib.hid (oneN_none (r := r) h)
      have hc := hT (a / 8) (by omega)
      rw [size_same, h] at hc
      clear hl h
      unfold firstPost
      go_enter Tryd.func160, Tryd.ntmps160
      go_wp2
      go_ret2
      exact ⟨ret_first HO.out rfl rfl, rfl⟩
    · exact first_one s i a r w hT hl hs (sizeOf8_one h)
    · exact first_many s i a _ r w hT hl hs rfl (by omega)
end Go.Proofs.YtpcfhiipkbpmkaaDoor
