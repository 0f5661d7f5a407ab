/- The walks of frame.Put and the reference's Put (layer 5). -/
import Derived.Test.YtoccanppfdeggaaFrE
namespace Go.Proofs.Ytoccanppfdeggaa
open Go.RowKit Go.Tab

/-- v reads as a list of rows of bytes. -/
def SlsAt (w : World) (v : Value) (vs : List Sl) (ls : List (List UInt8)) : Prop := RowOf slV w v vs ∧ Rows (BytesAt w) vs ls
theorem SlsAt.below {w w' : World} {v : Value} {vs : List Sl} {ls : List (List UInt8)} (h : SlsAt w v vs ls) (hb : Below w.heap.size w w') : SlsAt w' v vs ls :=
  ⟨h.1.below hb (Nat.le_refl _), h.2.imp fun s l _ hs => hs.below hb (Nat.le_refl _)⟩

theorem puts_take_len (ls : List (List UInt8)) (k : Nat) : (puts (ls.take k)).length ≤ (puts ls).length := by
  conv => rhs; rw [← List.take_append_drop k ls, puts_append]
  simp
theorem puts_take_succ (ls : List (List UInt8)) (k : Nat) (hk : k < ls.length) : puts (ls.take (k + 1)) = puts (ls.take k) ++ put ls[k].length ++ ls[k] := by
  rw [List.take_succ_eq_append_getElem hk, puts_snoc]
theorem puts_ge : ∀ ls : List (List UInt8), ls.length ≤ (puts ls).length
  | [] => by simp
  | b :: ls => by
    have := puts_ge ls
    have h := List.length_pos_iff.2 (put_ne b.length)
    rw [puts_cons]; simp; omega

set_option maxHeartbeats 2000000 in
set_option maxRecDepth 100000 in
theorem FPut_any (v : Value) (vs : List Sl) (ls : List (List UInt8)) (w : World) (hv : SlsAt w v vs ls) (hlen : (puts ls).length ≤ 1000000) :
    Calls Try.prog 26 #[v] w fun x w' => ∃ vo, x = .returned vo ∧ OwnB w.heap.size w' vo (puts ls) ∧ Below w.heap.size w w' := by
  have hge := puts_ge ls
  have hvl := hv.2.1
  have HVL := Lib.hid hvl
  have hge2 : vs.length ≤ (puts ls).length := by omega
  clear hvl hge
  obtain ⟨a, cap, rfl, hl, hm, hnn⟩ := hv.1.len
  unfold maxLen at hm
  go_enter Try.func26, Try.ntmps26
  go_wp2_with fail
  go_loopw [3, 8] (fun o i wr => ∃ k : Nat, k ≤ vs.length ∧ i = .int .i64 k ∧ OwnB w.heap.size wr o (puts (ls.take k)) ∧ Below w.heap.size w wr) (fun _ i _ => vs.length - (intOf i).toNat)
  case atStart => exact ⟨0, Nat.zero_le _, rfl, OwnOf.nil, Below.refl _ _⟩
  case round =>
    obtain ⟨k, hk, rfl, ho, hbel⟩ := hrel
    by_cases h : k < vs.length
    · obtain ⟨b, off, rfl, hb, hc⟩ := (hv.1.below hbel (Nat.le_refl _)).at h
      have hck := hc k h
      have hkl : k < ls.length := by have := HVL.out; omega
      have hbk := hv.2.2 k h hkl
      have hsucc := puts_take_succ ls k hkl
      have hle1 := puts_take_len ls (k + 1)
      rw [hsucc] at hle1
      simp only [List.length_append] at hle1
      have HS := Lib.hid hsucc
      clear hc hsucc
      generalize ls[k] = bk at hbk hle1 HS
      generalize vs[k] = sv at hck hbk
      clear hkl
      obtain ⟨sa, sn, sc⟩ := sv
      unfold slV at hck hbk
      simp only at hck hbk
      obtain ⟨x, cap', he, hl', hm', _⟩ := hbk.len
      cases he
      unfold maxLen at hm'
      have hz := hbel.size
      go_wp2_with fail
      refine (Put_any bk.length wr (by omega)).mono ?_
      rintro e2 w2 ⟨v2, rfl, ho2, hb2⟩
      have hz2 := hb2.size
      have hbel2 : Below w.heap.size w w2 := hbel.trans (hb2.mono hz)
      have ho' : OwnB w.heap.size w2 _ _ := ho.below hb2 (Nat.le_refl _)
      have hr2 := ho2.row
      go_wp2_with (with_reducible first | refine stop_append ?_ | refine stop_make ?_ | refine stop_slice ?_ | refine stop_copy ?_); refine Stop.out ?_
      refine wpList_append_row (f := byteV) rfl _ _ 22 rfl w.heap.size 5 1 _ Try.underlying22 Try.infoB rfl oneB (puts (ls.take k)) (put bk.length) (by exact ho') (by exact hr2) (by unfold maxLen; omega) (by omega) (by omega) w hbel2 ?_
      intro v3 w3 ho3 hb3 hg3
      have hz3 := hb3.size
      have hbk3 := hbk.below hb3 (Nat.le_refl _)
      have hlp : (puts (ls.take k) ++ put bk.length).length + bk.length ≤ 1000000 := by simp; omega
      have HLP := Lib.hid hlp
      clear hlp
      go_wp2_with (with_reducible first | refine stop_append ?_ | refine stop_make ?_ | refine stop_slice ?_ | refine stop_copy ?_); refine Stop.out ?_
      refine wpList_append_row (f := byteV) rfl _ _ 22 rfl w.heap.size 5 1 _ Try.underlying22 Try.infoB rfl oneB (puts (ls.take k) ++ put bk.length) bk (by exact ho3) (by exact hbk3) (by have := HLP.out; unfold maxLen; omega) (by have := HLP.out; omega) (by omega) w hb3 ?_
      intro v4 w4 ho4 hb4 hg4
      rw [← HS.out] at ho4
      clear hg3 hg4 hb2
      go_wp2
      go_roundw
      case rel => exact ⟨k + 1, h, by go_num, ho4, hb4⟩
      case measure => simp [intOf]; omega
    · obtain rfl : k = vs.length := by omega
      have hfull : ls.take vs.length = ls := by rw [HVL.out]; exact List.take_length
      rw [hfull] at ho
      clear hfull
      go_wp2
      go_ret
      exact ⟨_, rfl, ho, hbel⟩
set_option maxHeartbeats 2000000 in
set_option maxRecDepth 100000 in
theorem rFPut_any (v : Value) (vs : List Sl) (ls : List (List UInt8)) (w : World) (hv : SlsAt w v vs ls) (hlen : (puts ls).length ≤ 1000000) :
    Calls Try.prog 27 #[v] w fun x w' => ∃ vo, x = .returned vo ∧ OwnB w.heap.size w' vo (puts ls) ∧ Below w.heap.size w w' := by
  have hge := puts_ge ls
  have hvl := hv.2.1
  have HVL := Lib.hid hvl
  have hge2 : vs.length ≤ (puts ls).length := by omega
  clear hvl hge
  obtain ⟨a, cap, rfl, hl, hm, hnn⟩ := hv.1.len
  unfold maxLen at hm
  go_enter Try.func27, Try.ntmps27
  go_wp2_with fail
  go_loopw [3, 4] (fun o i wr => ∃ k : Nat, k ≤ vs.length ∧ i = .int .i64 k ∧ OwnB w.heap.size wr o (puts (ls.take k)) ∧ Below w.heap.size w wr) (fun _ i _ => vs.length - (intOf i).toNat)
  case atStart => exact ⟨0, Nat.zero_le _, rfl, OwnOf.nil, Below.refl _ _⟩
  case round =>
    obtain ⟨k, hk, rfl, ho, hbel⟩ := hrel
    by_cases h : k < vs.length
    · obtain ⟨b, off, rfl, hb, hc⟩ := (hv.1.below hbel (Nat.le_refl _)).at h
      have hck := hc k h
      have hkl : k < ls.length := by have := HVL.out; omega
      have hbk := hv.2.2 k h hkl
      have hsucc := puts_take_succ ls k hkl
      have hle1 := puts_take_len ls (k + 1)
      rw [hsucc] at hle1
      simp only [List.length_append] at hle1
      have HS := Lib.hid hsucc
      clear hc hsucc
      generalize ls[k] = bk at hbk hle1 HS
      generalize hsv : vs[k] = sv at hck hbk
      clear hkl
      obtain ⟨sa, sn, sc⟩ := sv
      have HSV := Lib.hid hsv
      clear hsv
      unfold slV at hck hbk
      simp only at hck hbk
      obtain ⟨x, cap', he, hl', hm', _⟩ := hbk.len
      cases he
      unfold maxLen at hm'
      have hz := hbel.size
      go_wp2_with fail
      refine (rPut_any bk.length wr (by omega)).mono ?_
      rintro e2 w2 ⟨v2, rfl, ho2, hb2⟩
      have hz2 := hb2.size
      have hbel2 : Below w.heap.size w w2 := hbel.trans (hb2.mono hz)
      have ho' : OwnB w.heap.size w2 _ _ := ho.below hb2 (Nat.le_refl _)
      have hr2 := ho2.row
      go_wp2_with (with_reducible first | refine stop_append ?_ | refine stop_make ?_ | refine stop_slice ?_ | refine stop_copy ?_); refine Stop.out ?_
      refine wpList_append_row (f := byteV) rfl _ _ 22 rfl w.heap.size 5 1 _ Try.underlying22 Try.infoB rfl oneB (puts (ls.take k)) (put bk.length) (by exact ho') (by exact hr2) (by unfold maxLen; omega) (by omega) (by omega) w hbel2 ?_
      intro v3 w3 ho3 hb3 hg3
      have hz3 := hb3.size
      have hbk3 := hbk.below hb3 (Nat.le_refl _)
      have hck3 : w3.cell? ⟨b, off + k, none⟩ = some (.slice sa bk.length sc) := by
        obtain ⟨b', off', e, _, hc⟩ := (hv.1.below hb3 (Nat.le_refl _)).at h
        cases e
        rw [hc k h, HSV.out]; rfl
      have hlp : (puts (ls.take k) ++ put bk.length).length + bk.length ≤ 1000000 := by simp; omega
      have HLP := Lib.hid hlp
      clear hlp
      go_wp2_with (with_reducible first | refine stop_append ?_ | refine stop_make ?_ | refine stop_slice ?_ | refine stop_copy ?_); refine Stop.out ?_
      refine wpList_append_row (f := byteV) rfl _ _ 22 rfl w.heap.size 5 1 _ Try.underlying22 Try.infoB rfl oneB (puts (ls.take k) ++ put bk.length) bk (by exact ho3) (by exact hbk3) (by have := HLP.out; unfold maxLen; omega) (by have := HLP.out; omega) (by omega) w hb3 ?_
      intro v4 w4 ho4 hb4 hg4
      rw [← HS.out] at ho4
      clear hg3 hg4 hb2
      go_wp2
      go_roundw
      case rel => exact ⟨k + 1, h, by go_num, ho4, hb4⟩
      case measure => simp [intOf]; omega
    · obtain rfl : k = vs.length := by omega
      have hfull : ls.take vs.length = ls := by rw [HVL.out]; exact List.take_length
      rw [hfull] at ho
      clear hfull
      go_wp2
      go_ret
      exact ⟨_, rfl, ho, hbel⟩
end Go.Proofs.Ytoccanppfdeggaa
