/- The walks of the reference's guess and One (layer 2). -/
import Derived.Test.YtpcfhiipkbpmkaaDoorUtfG
namespace Go.Proofs.YtpcfhiipkbpmkaaDoor
open Go.RowKit Go.Tab

set_option maxHeartbeats 3000000 in
set_option maxRecDepth 100000 in
theorem guess_any (s : ByteArray) (l : List Nat) (w : World) (hl : bs s = l) (h1 : 1 ≤ l.length) (h4 : l.length ≤ 4) :
    Calls Tryd.prog 171 #[.string s] w fun e w' => e = .returned (.int .i64 (guessN l)) ∧ Below w.heap.size w w' := by
  have hsz : s.size = l.length := by rw [← bs_length, hl]
  have hat : ∀ j (hj : j < l.length), ∃ h' : j < s.size, (s[j]'h').toNat = l[j] := fun j hj => by
    have := bs_at (s := s) (i := 0) (l := l) (by simpa using hl) hj
    simpa using this
  have hlt : ∀ x ∈ l, x < 256 := by rw [← hl]; exact bs_lt
  clear hl
  rcases l with _ | ⟨a, _ | ⟨b, _ | ⟨c, _ | ⟨d, _ | ⟨f, r⟩⟩⟩⟩⟩
  · simp at h1
  · obtain ⟨i0, e0⟩ := hat 0 (by simp)
    simp only [List.getElem_cons_zero] at e0
    have b0 := hlt a (by simp)
    simp only [List.length_cons, List.length_nil] at hsz
    clear hat hlt h1 h4
    go_enter Tryd.func171, Tryd.ntmps171
    go_wp2_with fail
    go_quiet (fail)
    go_wp2_with fail
    refine wp_loop_rounds 1 ?_
    rw [rounds_succ]
    go_wp2
    go_ret
    refine ⟨ret_num (by simp [guessN, guessG, leadOf]), ?_⟩
    exact ((Below.refl _ _).alloc (Nat.le_refl _) _).trans (below_draws _ _ _)
  · obtain ⟨i0, e0⟩ := hat 0 (by simp)
    obtain ⟨i1, e1⟩ := hat 1 (by simp)
    simp only [List.getElem_cons_zero, List.getElem_cons_succ] at e0 e1
    have b0 := hlt a (by simp)
    have b1 := hlt b (by simp)
    simp only [List.length_cons, List.length_nil] at hsz
    clear hat hlt h1 h4
    go_enter Tryd.func171, Tryd.ntmps171
    go_wp2_with fail
    go_quiet (fail)
    go_wp2_with fail
    refine wp_loop_rounds 2 ?_
    rw [rounds_succ]
    go_wp2_with fail
    rw [rounds_succ]
    go_wp2
    go_ret
    refine ⟨ret_num (by simp [guessN, guessG, leadOf]), ?_⟩
    exact ((Below.refl _ _).alloc (Nat.le_refl _) _).trans (below_draws _ _ _)
  · obtain ⟨i0, e0⟩ := hat 0 (by simp)
    obtain ⟨i1, e1⟩ := hat 1 (by simp)
    obtain ⟨i2, e2⟩ := hat 2 (by simp)
    simp only [List.getElem_cons_zero, List.getElem_cons_succ] at e0 e1 e2
    have b0 := hlt a (by simp)
    have b1 := hlt b (by simp)
    have b2 := hlt c (by simp)
    simp only [List.length_cons, List.length_nil] at hsz
    clear hat hlt h1 h4
    go_enter Tryd.func171, Tryd.ntmps171
    go_wp2_with fail
    go_quiet (fail)
    go_wp2_with fail
    refine wp_loop_rounds 3 ?_
    rw [rounds_succ]
    go_wp2_with fail
    rw [rounds_succ]
    go_wp2_with fail
    rw [rounds_succ]
    go_wp2
    go_ret
    refine ⟨ret_num (by simp [guessN, guessG, leadOf]), ?_⟩
    exact ((Below.refl _ _).alloc (Nat.le_refl _) _).trans (below_draws _ _ _)
  · obtain ⟨i0, e0⟩ := hat 0 (by simp)
    obtain ⟨i1, e1⟩ := hat 1 (by simp)
    obtain ⟨i2, e2⟩ := hat 2 (by simp)
    obtain ⟨i3, e3⟩ := hat 3 (by simp)
    simp only [List.getElem_cons_zero, List.getElem_cons_succ] at e0 e1 e2 e3
    have b0 := hlt a (by simp)
    have b1 := hlt b (by simp)
    have b2 := hlt c (by simp)
    have b3 := hlt d (by simp)
    simp only [List.length_cons, List.length_nil] at hsz
    clear hat hlt h1 h4
    go_enter Tryd.func171, Tryd.ntmps171
    go_wp2_with fail
    go_quiet (fail)
    go_wp2_with fail
    refine wp_loop_rounds 4 ?_
    rw [rounds_succ]
    go_wp2_with fail
    rw [rounds_succ]
    go_wp2_with fail
    rw [rounds_succ]
    go_wp2_with fail
    rw [rounds_succ]
    go_wp2
    go_ret
    refine ⟨ret_num (by simp [guessN, guessG, leadOf]), ?_⟩
    exact ((Below.refl _ _).alloc (Nat.le_refl _) _).trans (below_draws _ _ _)
  · simp at h4

theorem bs_inj {a b : ByteArray} (h : bs a = bs b) : a = b := by
  have h1 : a.data.toList = b.data.toList := by
    unfold bs at h
    exact (List.map_inj_right (fun _ _ => UInt8.toNat_inj.1)).1 h
  exact ByteArray.ext (Array.toList_inj.1 h1)
theorem toList_iff {a b : ByteArray} : (a.toList == b.toList) = true ↔ a = b := by
  constructor
  · intro h
    have h1 := beq_iff_eq.1 h
    rw [ByteArray.toList_eq, ByteArray.toList_eq] at h1
    exact ByteArray.ext (Array.toList_inj.1 h1)
  · rintro rfl; simp
theorem bs_extract (s : ByteArray) (i j : Nat) : bs (s.extract i j) = ((bs s).take j).drop i := by
  unfold bs
  rw [ByteArray.data_extract, Array.toList_extract, List.extract_eq_drop_take', ← List.map_take, ← List.map_drop]
theorem bs_strOf (l : List UInt8) : bs (strOf l) = l.map UInt8.toNat := by simp [bs, strOf]
theorem putN_lt {c : Nat} (h : c ≤ 1114111) : ∀ x ∈ putN c, x < 256 := by
  intro x hx
  unfold putN at hx
  split at hx
  · simp at hx; omega
  split at hx
  · simp at hx; omega
  split at hx
  · simp at hx; omega
  · simp at hx; omega
theorem bs_putU {c : Nat} (h : isSc c = true) : bs (strOf (putU c)) = putN c := by
  rw [isSc_iff] at h
  have hp := putN_lt h.1
  rw [bs_strOf]
  unfold putU
  rw [List.map_map]
  conv => rhs; rw [← List.map_id (putN c)]
  apply List.map_congr_left
  intro x hx
  have := hp x hx
  simp [UInt8.toNat_ofNat']
  omega
/-- The text of a guess is these bytes just if it is told. -/
theorem guess_text {s : ByteArray} {i k : Nat} (h1 : 1 ≤ k) (h2 : i + k ≤ s.size) :
    (strOf (rputL (guessN (((bs s).drop i).take k))) = s.extract i (i + k)) ↔ (oneN ((bs s).drop i)).2 = k := by
  have hl : ∀ x ∈ (bs s).drop i, x < 256 := fun x hx => bs_lt x (List.mem_of_mem_drop hx)
  have hlen : k ≤ ((bs s).drop i).length := by simp [bs_length]; omega
  have hex : bs (s.extract i (i + k)) = ((bs s).drop i).take k := by
    rw [bs_extract, List.drop_take]; congr 1; omega
  rw [guess_yes hl h1 hlen]
  generalize guessN (((bs s).drop i).take k) = g
  constructor
  · intro h
    have h3 := congrArg bs h
    rw [hex] at h3
    unfold rputL at h3
    cases hg : isScI g with
    | false =>
      rw [hg] at h3
      have := congrArg List.length h3
      simp [bs_strOf, bs_length] at this
      omega
    | true =>
      obtain ⟨n, rfl⟩ : ∃ n : Nat, g = n := ⟨g.toNat, by unfold isScI at hg; simp at hg; omega⟩
      rw [hg] at h3
      rw [isScI_nat] at hg
      simp only [if_true, Int.toNat_natCast] at h3 ⊢
      rw [bs_putU hg] at h3
      exact ⟨trivial, h3⟩
  · rintro ⟨hg, h3⟩
    apply bs_inj
    rw [hex, ← h3]
    unfold rputL
    rw [hg]
    obtain ⟨n, rfl⟩ : ∃ n : Nat, g = n := ⟨g.toNat, by unfold isScI at hg; simp at hg; omega⟩
    rw [isScI_nat] at hg
    simp only [if_true, Int.toNat_natCast]
    exact bs_putU hg

set_option maxHeartbeats 3000000 in
set_option maxRecDepth 100000 in
theorem One_any (s : ByteArray) (i : Nat) (w : World) (hs : s.size ≤ 1000000) (hi : i ≤ s.size) :
    Calls Tryd.prog 161 #[.string s, .int .i64 i] w fun e w' => e = .returned (.tuple #[.int .i64 (oneN ((bs s).drop i)).1, .int .i64 (oneN ((bs s).drop i)).2]) ∧ Below w.heap.size w w' := by
  have hlt : ∀ x ∈ (bs s).drop i, x < 256 := fun x hx => bs_lt x (List.mem_of_mem_drop hx)
  have hle := oneN_le _ hlt
  simp only [List.length_drop, bs_length] at hle
  have HLE := Lib.hid hle
  have HLT := Lib.hid hlt
  clear hle hlt
  go_enter Tryd.func161, Tryd.ntmps161
  go_wp2_with fail
  go_loopw [6] (fun n wr => ∃ k : Nat, n = .int .i64 k ∧ 1 ≤ k ∧ k ≤ 5 ∧ (∀ m, 1 ≤ m → m < k → (oneN ((bs s).drop i)).2 ≠ m) ∧ Below w.heap.size w wr) (fun n _ => 6 - (intOf n).toNat)
  case atStart => exact ⟨1, rfl, by omega, by omega, fun m h1 h2 => by omega, Below.refl _ _⟩
  case round =>
    obtain ⟨k, rfl, h1, h5, hno, hb⟩ := hrel
    have HN := Lib.hid hno
    clear hno
    by_cases hk : k = 5
    · subst hk
      have h0 : (oneN ((bs s).drop i)).2 = 0 := by
        have h2 := HLE.out.2
        have h3 := HN.out
        rcases Nat.lt_or_ge (oneN ((bs s).drop i)).2 1 with h | h
        · omega
        · exact absurd rfl (h3 _ h (by omega))
      have hc := oneN_zero (l := (bs s).drop i) (c := (oneN ((bs s).drop i)).1) (n := (oneN ((bs s).drop i)).2) rfl h0
      have H0 := Lib.hid h0
      have HC := Lib.hid hc
      clear h0 hc
      go_wp2
      go_ret2
      rw [H0.out, HC.out]
      exact ⟨rfl, hb⟩
    by_cases hsz : s.size < i + k
    · have h0 : (oneN ((bs s).drop i)).2 = 0 := by
        have h2 := HLE.out.1
        have h3 := HN.out
        rcases Nat.lt_or_ge (oneN ((bs s).drop i)).2 1 with h | h
        · omega
        · exact absurd rfl (h3 _ h (by omega))
      have hc := oneN_zero (l := (bs s).drop i) (c := (oneN ((bs s).drop i)).1) (n := (oneN ((bs s).drop i)).2) rfl h0
      have H0 := Lib.hid h0
      have HC := Lib.hid hc
      have hk4 : k ≤ 4 := by omega
      clear h0 hc
      go_wp2
      go_ret2
      rw [H0.out, HC.out]
      exact ⟨rfl, hb⟩
    have hk4 : k ≤ 4 := by omega
    have hik : i + k ≤ s.size := by omega
    clear hk hsz h5
    have hz := hb.size
    have hex : bs (s.extract i (i + k)) = ((bs s).drop i).take k := by
      rw [bs_extract, List.drop_take]; congr 1; omega
    have hG := guess_any (s.extract i (i + k)) (((bs s).drop i).take k) wr hex (by simp [bs_length]; omega) (by simp; omega)
    have htx := Lib.hid (guess_text h1 hik)
    have hgi := Lib.hid (fun h => guess_is HLT.out h1 (n := k) h)
    clear hex
    go_wp2_with fail
    refine hG.mono ?_
    clear hG
    rintro e w2 ⟨rfl, hb2'⟩
    have hb2 := hb.trans (hb2'.mono hz)
    have hz2 := hb2.size
    clear hb2'
    generalize guessN (((bs s).drop i).take k) = g at *
    go_wp2_with fail
    refine wp_region_under w2 (by kernel_rfl) (by kernel_rfl) (Below.refl _ _) ?_
    repeat (go_big_quiet_step ((go_at_call 172; exact Under.call _ (rPut_any g _))))
    by_cases hyes : (oneN ((bs s).drop i)).2 = k
    · have hq : ((strOf (rputL g)).toList == (s.extract i (i + k)).toList) = true := toList_iff.2 (htx.out.2 hyes)
      have hgg := hgi.out hyes
      have HY := Lib.hid hyes
      have HG := Lib.hid hgg
      rw [hq]
      refine wpQuiet_nil ?_
      rintro _ ⟨x, rfl⟩
      have hb5 := hb2.trans (x.below.mono hz2)
      clear hyes hgg hq
      go_wp2
      go_ret2
      rw [HY.out]
      exact ⟨by rw [HG.out]; rfl, hb5⟩
    · have hq : ((strOf (rputL g)).toList == (s.extract i (i + k)).toList) = false := by
        rw [Bool.eq_false_iff]
        exact fun h => hyes (htx.out.1 (toList_iff.1 h))
      have HN2 : Hid (∀ m, 1 ≤ m → m < k + 1 → (oneN ((bs s).drop i)).2 ≠ m) := by
        refine Lib.hid (fun m m1 m2 => ?_)
        by_cases hm : m = k
        · subst hm; exact hyes
        · exact HN.out m m1 (by omega)
      rw [hq]
      refine wpQuiet_nil ?_
      rintro _ ⟨x, rfl⟩
      have hb5 := hb2.trans (x.below.mono hz2)
      clear hyes hq
      go_wp2
      go_roundw
      case rel => exact ⟨k + 1, by go_num, by omega, by omega, HN2.out, hb5⟩
      case measure => simp [intOf]; omega
end Go.Proofs.YtpcfhiipkbpmkaaDoor
