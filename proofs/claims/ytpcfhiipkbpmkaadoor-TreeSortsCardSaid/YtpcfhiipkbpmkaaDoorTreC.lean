/- The walks of the reference's Deep, and of Great (layer 8). -/
import Derived.Test.YtpcfhiipkbpmkaaDoorTreB
namespace Go.Proofs.YtpcfhiipkbpmkaaDoor
open Go.RowKit Go.Tab


set_option maxHeartbeats 2000000 in
set_option maxRecDepth 100000 in
theorem rDeep_any : ∀ (n : Nat) (t : Tree), t.bulk ≤ n → t.bulk ≤ 1048576 → ∀ (w : World) (cs : List Value), ValAt w t cs →
    Calls Tryd.prog 28 #[valV cs] w fun e w' => e = .returned (.int .i64 (deep t : Nat)) ∧ Below w.heap.size w w'
  | 0, t, h, _, _, _, _ => by have := bulk_pos t; omega
  | n + 1, .mk kind is neg digits exp str keys kids, h, hmax, w, cs, hv => by
    have hkb : bulkAll kids ≤ n ∧ bulkAll kids ≤ 1048575 := by simp only [Tree.bulk] at h hmax; omega
    simp only [ValAt] at hv
    obtain ⟨kv, a, cap, rfl, hk, hl, hm, hnil, hx⟩ := hv
    obtain ⟨ka, kc, rfl, hkl0, hkm0, -⟩ := hk.len
    have hll := len_bulk kids
    have hlk := len_ks keys
    unfold maxLen at hm hkm0
    have hbu := deepAll_bulk kids
    simp only [valV, deep]
    clear h hmax
    have hx0 := Cells.new w #[.int .i64 kind, .bool is, .bool neg, .string digits, .int .i64 exp, .string str, .slice ka keys.length kc, .slice a kids.length cap] 27
    have hb0 : Below w.heap.size w (w.alloc (.cells #[.int .i64 kind, .bool is, .bool neg, .string digits, .int .i64 exp, .string str, .slice ka keys.length kc, .slice a kids.length cap] 27)) := (Below.refl _ w).alloc (Nat.le_refl _) _
    by_cases hkind : kind = 5 ∨ kind = 6
    · rw [if_pos hkind]
      have hk2 : ((kind == 5) = true) ∨ ((kind == 5) = false ∧ (kind == 6) = true) := by
        rcases hkind with rfl | rfl
        · exact .inl rfl
        · exact .inr ⟨rfl, rfl⟩
      clear hkind
      rcases hk2 with b1 | ⟨b1, b2⟩
      all_goals
        go_enter Tryd.func28, Tryd.ntmps28
        go_wp2_with fail
        go_loopw [3, 4] (fun d i wr => ∃ k : Nat, k ≤ kids.length ∧ i = .int .i64 (k : Int) ∧ d = .int .i64 (deepAll (kids.take k) : Nat) ∧ Below w.heap.size w wr ∧ Cells wr w.heap.size #[.int .i64 kind, .bool is, .bool neg, .string digits, .int .i64 exp, .string str, .slice ka keys.length kc, .slice a kids.length cap] 27) (fun _ i _ => kids.length - (intOf i).toNat)
        case atStart => exact ⟨0, Nat.zero_le _, rfl, by simp [deepAll], hb0, hx0⟩
        case round =>
          clear hb0 hx0
          obtain ⟨k, hkk, rfl, rfl, hb, hX⟩ := hrel
          have hXl := hX.lt
          have hXc0 := hX.cell 0 _ rfl
          have hXf0 := hX.frozen 0
          have hXc1 := hX.cell 1 _ rfl
          have hXf1 := hX.frozen 1
          have hXc2 := hX.cell 2 _ rfl
          have hXf2 := hX.frozen 2
          have hXc3 := hX.cell 3 _ rfl
          have hXf3 := hX.frozen 3
          have hXc4 := hX.cell 4 _ rfl
          have hXf4 := hX.frozen 4
          have hXc5 := hX.cell 5 _ rfl
          have hXf5 := hX.frozen 5
          have hXc6 := hX.cell 6 _ rfl
          have hXf6 := hX.frozen 6
          have hXc7 := hX.cell 7 _ rfl
          have hXf7 := hX.frozen 7
          by_cases hkl : k < kids.length
          · have hne : kids ≠ [] := by intro h0; rw [h0] at hkl; simp at hkl
            cases a with
            | none => have := hnil rfl; omega
            | some x =>
              obtain ⟨bb, off, sp⟩ := x
              obtain ⟨rfl, hlt, hkids⟩ := hx _ rfl hne
              simp only at hlt hkids
              obtain ⟨kc0, hkc, hkv⟩ := KidsAt.get (KidsAt.below hb (hlt) kids _ hkids) k hkl
              obtain ⟨kkind, kis, kneg, kdig, kexp, kstr, kka, kkn, kkc, ksa, ksn, ksc, rfl, m0, m1, m2, m3, m4, m5, m6, m7⟩ := kid_at hkv hkc
              have hkbk := bulk_kid hkl
              have hIH := rDeep_any n kids[k] (by omega) (by omega)
              have hDT := Lib.hid (deepAll_take hkl)
              have hdk := deep_bulk kids[k]
              have hdt := deepAll_bulk (kids.take k)
              have hbt := bulkAll_take kids k
              generalize kids[k] = kid at *
              generalize hda : deepAll (kids.take k) = da at *
              have HDA := Lib.hid hda
              clear hda
              go_wp2_with fail
              refine (hIH _ _ hkv).mono ?_
              clear hIH hkv hkc
              rintro e w2 ⟨rfl, hb2⟩
              have hb3 := hb.trans (hb2.mono hb.size)
              have hX2 := hX.below hb2 hXl
              clear hXc0 hXc1 hXc2 hXc3 hXc4 hXc5 hXc6 hXc7 hXf0 hXf1 hXf2 hXf3 hXf4 hXf5 hXf6 hXf7
              by_cases hgt : da < deep kid
              all_goals
                go_wp2
                go_roundw
                case rel => exact ⟨k + 1, hkl, by go_num, by rw [hDT.out]; exact congrArg (Value.int .i64) (by omega), hb3, hX2⟩
                case measure => simp [intOf]; omega
          · obtain rfl : k = kids.length := by omega
            rw [List.take_length]
            go_wp2
            go_ret
            exact ⟨rfl, hb⟩
    · rw [if_neg hkind]
      have b1 : (kind == 5) = false := by rw [beq_eq_false_iff_ne]; omega
      have b2 : (kind == 6) = false := by rw [beq_eq_false_iff_ne]; omega
      clear hkind
      go_enter Tryd.func28, Tryd.ntmps28
      go_wp2
      go_ret
      exact ⟨rfl, hb0⟩
end Go.Proofs.YtpcfhiipkbpmkaaDoor
