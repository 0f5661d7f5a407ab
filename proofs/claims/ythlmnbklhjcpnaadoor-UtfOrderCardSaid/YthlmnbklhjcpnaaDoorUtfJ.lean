/- The walks of the reference's All and of UtfValid: it returns true. -/
import Derived.Test.YthlmnbklhjcpnaaDoorUtfI
namespace Go.Proofs.YthlmnbklhjcpnaaDoor
open Go.RowKit Go.Tab

theorem cells_pair (w : World) (a b : Value) (t : TypeId) : (w.alloc (.cells #[a, b] t)).cell? ⟨w.heap.size, 0, none⟩ = some a ∧ (w.alloc (.cells #[a, b] t)).cell? ⟨w.heap.size, 1, none⟩ = some b := by
  constructor <;> rw [World.cell?_alloc_new] <;> rfl

set_option maxHeartbeats 800000 in
set_option maxRecDepth 100000 in
theorem rAll_any (s : ByteArray) (w : World) (hs : s.size ≤ 1000000) :
    Calls Tryd.prog 9 #[.string s] w fun e w' => ∃ v, e = .returned v ∧ OwnP w.heap.size w' v (scan (bs s) 0).1 ∧ Below w.heap.size w w' := by
  go_enter Tryd.func9, Tryd.ntmps9
  go_wp2_with fail
  go_loopw [3, 4] (fun v i wr => ∃ (k : Nat) (pre : List (Nat × Nat)), i = .int .i64 k ∧ k ≤ s.size ∧ pre.length ≤ k ∧ Rest (bs s) k pre ∧ OwnP w.heap.size wr v pre ∧ Below w.heap.size w wr) (fun _ i _ => s.size - (intOf i).toNat)
  case atStart => exact ⟨0, [], rfl, Nat.zero_le _, Nat.le_refl _, Rest.zero _, OwnP.nil, Below.refl _ _⟩
  case round =>
    obtain ⟨k, pre, rfl, hk, hpl, hr, ho, hb⟩ := hrel
    have HR := Lib.hid hr
    have hz := hb.size
    clear hr
    by_cases h : k < s.size
    · obtain ⟨c, n, h1⟩ : ∃ c n, oneN ((bs s).drop k) = (c, n) := ⟨_, _, rfl⟩
      have hle := (oneN_le ((bs s).drop k) (fun x hx => bs_lt x (List.mem_of_mem_drop hx))).1
      have hF := One_any s k wr hs hk
      rw [h1] at hF hle
      simp only [List.length_drop, bs_length] at hle
      have H1 := Lib.hid h1
      clear h1
      by_cases hn : n = 0
      · subst hn
        have h2 := Lib.hid (HR.out.bad (by rw [bs_length]; exact h) (by rw [H1.out]))
        go_wp2_with fail
        refine hF.mono ?_
        clear hF
        rintro e w1 ⟨rfl, hb1⟩
        have hb2 := hb.trans (hb1.mono hz)
        have ho2 := ho.below hb1
        go_wp2
        go_ret
        rw [h2.out]
        exact ⟨_, rfl, ho2, hb2⟩
      · have h2 := Lib.hid (HR.out.good (by rw [bs_length]; exact h) H1.out hn)
        have hbn : ((n : Int) == 0) = false := by rw [beq_eq_false_iff_ne]; omega
        have hn1 : 1 ≤ n := by omega
        clear hn
        go_wp2_with fail
        refine hF.mono ?_
        clear hF
        rintro e w1 ⟨rfl, hb1⟩
        have hb2 := hb.trans (hb1.mono hz)
        have hz2 := hb2.size
        have ho2 := ho.below hb1
        obtain ⟨c0, c1⟩ := cells_pair w1 (.int .i64 (k : Int)) (.int .i64 (c : Int)) 30
        go_wp2_with (with_reducible first | refine stop_append ?_ | refine stop_make ?_ | refine stop_slice ?_ | refine stop_copy ?_); refine Stop.out ?_
        refine wpList_append_pair rfl _ _ rfl w.heap.size pre (k, c) (by exact ho2.alloc _) w1.heap.size rfl (by exact c0) (by exact c1) (by omega) (by simp; omega) w (by exact hb2.alloc hz2 _) ?_
        intro v3 w3 ho3 hb3
        obtain ⟨a3, c3, rfl⟩ := ho3.len
        have ho4 : OwnP w.heap.size w3 (.slice a3 (pre.length + 1) c3) (pre ++ [(k, c)]) := by simpa using ho3
        clear c0 c1 ho3
        go_wp2
        go_roundw
        case rel => exact ⟨k + n, _, by go_num, by omega, by simp; omega, h2.out, ho4, hb3⟩
        case measure => simp [intOf]; omega
    · have h2 := Lib.hid (HR.out.done (by rw [bs_length]; omega))
      go_wp2
      go_ret
      rw [h2.out]
      exact ⟨_, rfl, ho, hb⟩

set_option maxHeartbeats 3000000 in
set_option maxRecDepth 100000 in
theorem UtfValid_walk (a0 : ByteArray) (w : World) (w0 : a0.size ≤ maxLen) (hT : Tab w) :
    Calls Tryd.prog 6 #[.string a0] w fun e w' => e = .returned (.bool true) ∧ Below w.heap.size w w' := by
  have hwk := uwakes_any w hT
  by_cases h0 : 1000 < a0.size
  · go_enter Tryd.func6, Tryd.ntmps6
    go_wp2_with fail
    refine hwk.mono ?_
    rintro e w1 ⟨rfl, hb1⟩
    go_wp2
    go_ret
    exact ⟨rfl, hb1⟩
  have h2 : a0.size ≤ 1000 := by omega
  clear w0 h0
  obtain ⟨l, o, hsc⟩ : ∃ l o, scan (bs a0) 0 = (l, o) := ⟨_, _, rfl⟩
  have hB := fun w' hT' => Bad_any a0 w' hT' (by omega)
  have hV := fun w' hT' => Valid_any a0 w' hT' (by omega)
  have hC := fun w' hT' => Count_any a0 w' hT' (by omega)
  have hRB := fun w' => rBad_any a0 w' (by omega)
  have hRA := fun w' => rAll_any a0 w' (by omega)
  have hl0 := scan_len (bs a0).length (bs a0) 0 (Nat.le_refl _)
  rw [bs_length] at hl0
  rw [hsc] at hB hV hC hRB hRA hl0
  simp only [countV] at hC hB hV hRB hRA hl0
  cases o with
  | none =>
    simp only [Option.isNone_none, if_true, show badV none = -1 from rfl] at hB hV hC hRB
    go_enter Tryd.func6, Tryd.ntmps6
    go_wp2_with fail
    refine hwk.mono ?_
    rintro e w1 ⟨rfl, hb1⟩
    have hz1 := hb1.size
    go_wp2_with fail
    refine (hRB w1).mono ?_
    rintro e w2 ⟨rfl, hb2'⟩
    have hb2 := hb1.trans (hb2'.mono hz1)
    have hz2 := hb2.size
    have hT2 := hT.below hb2 hT.pos
    go_wp2_with fail
    refine (hC w2 hT2).mono ?_
    rintro e w3 ⟨rfl, rfl⟩
    go_wp2_with fail
    refine (hB w2 hT2).mono ?_
    rintro e w3 ⟨rfl, rfl⟩
    go_wp2_with fail
    refine (hV w2 hT2).mono ?_
    rintro e w3 ⟨rfl, rfl⟩
    go_wp2_with fail
    refine (hRA w2).mono ?_
    rintro e w3 ⟨v, rfl, ho, hb3'⟩
    have hb3 := hb2.trans (hb3'.mono hz2)
    obtain ⟨a3, c3, rfl⟩ := ho.len
    go_wp2
    go_ret
    exact ⟨rfl, hb3⟩
  | some k =>
    have hk := scan_lt (bs a0).length (bs a0) 0 k (Nat.le_refl _) bs_lt (by rw [hsc])
    rw [bs_length] at hk
    simp only [Option.isNone_some, show badV (some k) = (k : Int) from rfl] at hB hV hC hRB
    have hk0 : decide ((k : Int) < 0) = false := by rw [decide_eq_false_iff_not]; omega
    go_enter Tryd.func6, Tryd.ntmps6
    go_wp2_with fail
    refine hwk.mono ?_
    rintro e w1 ⟨rfl, hb1⟩
    have hz1 := hb1.size
    go_wp2_with fail
    refine (hRB w1).mono ?_
    rintro e w2 ⟨rfl, hb2'⟩
    have hb2 := hb1.trans (hb2'.mono hz1)
    have hz2 := hb2.size
    have hT2 := hT.below hb2 hT.pos
    go_wp2_with fail
    refine (hC w2 hT2).mono ?_
    rintro e w3 ⟨rfl, rfl⟩
    go_wp2_with fail
    refine (hB w2 hT2).mono ?_
    rintro e w3 ⟨rfl, rfl⟩
    go_wp2_with fail
    refine (hV w2 hT2).mono ?_
    rintro e w3 ⟨rfl, rfl⟩
    go_wp2
    go_ret
    exact ⟨rfl, hb2⟩
end Go.Proofs.YthlmnbklhjcpnaaDoor
