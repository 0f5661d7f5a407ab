/- The walk of the program's Print (layer 7). -/
import Derived.Test.YtgkgdmpbcneoiaaDoorQuoL
namespace Go.Proofs.YtgkgdmpbcneoiaaDoor
open Go.RowKit Go.Tab

theorem in2 : BldIn 43 2 0 := ⟨by decide, by kernel_rfl, by decide⟩
/-- A builder in a block of its own. -/
def PB (w : World) (g : Nat) (l : List UInt8) : Prop := ∃ cs, Bld 43 g w g 0 cs l ∧ cs.size = 2
theorem PB.new (w : World) : PB (w.alloc (.cells #[.pointer none, .slice none 0 0] 43)) w.heap.size [] :=
  ⟨_, ⟨Cells.new w _ _, .inl rfl, _, rfl, OwnOf.nil⟩, rfl⟩
theorem PB.lt {w : World} {g : Nat} {l : List UInt8} (h : PB w g l) : g < w.heap.size := by obtain ⟨cs, h1, _⟩ := h; exact h1.cells.lt
theorem pWB (w : World) (g : Nat) (l : List UInt8) (c : Nat) (n : Int) (hn : n = (c : Int)) (hc : c < 256) (h : PB w g l) (hl : l.length ≤ 100000000) :
    Calls Tryd.prog 23 #[.pointer (some ⟨g, 0, none⟩), .int .u8 n] w fun e w' => e = .returned .nilIface ∧ PB w' g (l ++ un [c]) ∧ Below g w w' := by
  obtain ⟨cs, hb, h5⟩ := h
  refine (WriteByte_any w (UInt8.ofNat c) n (by rw [hn, UInt8.toNat_ofNat']; omega) hb (by rw [h5]; exact in2) (Nat.le_refl _) (by omega)).mono ?_
  rintro e w' ⟨rfl, cs', h1, h2, h3, h4⟩
  exact ⟨rfl, ⟨cs', h1, by rw [h2.1, h5]⟩, h3⟩
theorem pWS (w : World) (g : Nat) (l : List UInt8) (x : ByteArray) (h : PB w g l) (hl : l.length + x.size ≤ 100000000) :
    Calls Tryd.prog 25 #[.pointer (some ⟨g, 0, none⟩), .string x] w fun e w' => e = .returned (.tuple #[.int .i64 x.size, .nilIface]) ∧ PB w' g (l ++ x.data.toList) ∧ Below g w w' := by
  obtain ⟨cs, hb, h5⟩ := h
  refine (WriteString_any w x hb (by rw [h5]; exact in2) (Nat.le_refl _) (by omega)).mono ?_
  rintro e w' ⟨rfl, cs', h1, h2, h3, h4⟩
  exact ⟨rfl, ⟨cs', h1, by rw [h2.1, h5]⟩, h3⟩
theorem pS (w : World) (g : Nat) (l : List UInt8) (h : PB w g l) (hl : l.length ≤ 100000000) :
    Calls Tryd.prog 19 #[.pointer (some ⟨g, 0, none⟩)] w fun e w' => e = .returned (.string (strOf l)) ∧ Below g w w' := by
  obtain ⟨cs, hb, h5⟩ := h
  refine (String_any w hb (Nat.le_of_lt hb.cells.lt) (by omega)).mono ?_
  rintro e w' ⟨rfl, h1, _⟩
  exact ⟨rfl, h1⟩

theorem prB_len (c : Nat) : (prB c).length ≤ 6 := by
  unfold prB
  split
  · simp
  split <;> simp
theorem flat_len : ∀ (l : List Nat), (l.flatMap prB).length ≤ 6 * l.length
  | [] => by simp
  | c :: r => by
    have h1 := prB_len c
    have h2 := flat_len r
    rw [List.flatMap_cons, List.length_append, List.length_cons]
    omega
/-- What has been printed behind the first k bytes. -/
def preQ (l : List Nat) (k : Nat) : List Nat := 34 :: (l.take k).flatMap prB
theorem preQ_len (l : List Nat) (k : Nat) (h : k ≤ l.length) : (preQ l k).length ≤ 6 * k + 1 := by
  have := flat_len (l.take k)
  simp only [preQ, List.length_cons, List.length_take] at this ⊢
  omega
theorem preQ_succ {l : List Nat} {k : Nat} (h : k < l.length) : preQ l (k + 1) = preQ l k ++ prB l[k] := by
  unfold preQ
  rw [List.take_succ_eq_append_getElem h, List.flatMap_append]
  simp
theorem preQ_all {l : List Nat} {k : Nat} (h : k = l.length) : preQ l k ++ [34] = printQ l := by
  subst h
  unfold preQ printQ
  rw [List.take_length]
  rfl
def digs : ByteArray := ⟨#[48, 49, 50, 51, 52, 53, 54, 55, 56, 57, 97, 98, 99, 100, 101, 102]⟩
theorem digs_at {n : Nat} (h : n < 16) : ∃ h' : n < digs.size, ((digs[n]'h').toNat : Int) = (digB n : Int) := by
  have : n = 0 ∨ n = 1 ∨ n = 2 ∨ n = 3 ∨ n = 4 ∨ n = 5 ∨ n = 6 ∨ n = 7 ∨ n = 8 ∨ n = 9 ∨ n = 10 ∨ n = 11 ∨ n = 12 ∨ n = 13 ∨ n = 14 ∨ n = 15 := by omega
  rcases this with rfl | rfl | rfl | rfl | rfl | rfl | rfl | rfl | rfl | rfl | rfl | rfl | rfl | rfl | rfl | rfl <;> exact ⟨by decide, by decide⟩
theorem and15u (a : Nat) (h : a < 256) : bits .and .u8 (a : Int) 15 = ((a % 16 : Nat) : Int) := by
  have h2 : ∀ a : Fin 256, bits .and .u8 (a.val : Int) 15 = ((a.val % 16 : Nat) : Int) := by decide +kernel
  exact h2 ⟨a, h⟩
theorem bs_at_k {s : ByteArray} {k : Nat} (h : k < s.size) : (s[k]'h).toNat = (bs s)[k]'(by rw [bs_length]; exact h) := bs_get h

set_option maxHeartbeats 4000000 in
set_option maxRecDepth 100000 in
theorem Print_yes (s : ByteArray) (w : World) (hs : s.size ≤ 100000) (hT : Tab w) (hv : (scan (bs s) 0).2.isNone = true) :
    Calls Tryd.prog 13 #[.string s] w fun e w' => e = .returned (.tuple #[.string (strOf (un (printQ (bs s)))), .int .i64 0]) ∧ Below w.heap.size w w' := by
  have hV := Valid_any s w hT (by omega)
  rw [hv] at hV
  clear hv
  go_enter Tryd.func13, Tryd.ntmps13
  go_wp2_with fail
  refine hV.mono ?_
  rintro e w1 ⟨rfl, rfl⟩
  have hP0 := PB.new w
  have hb0 : Below w.heap.size w (w.alloc (.cells #[.pointer none, .slice none 0 0] 43)) := (Below.refl _ w).alloc (Nat.le_refl _) _
  go_wp2_with fail
  refine (pWB _ w.heap.size [] 34 _ rfl (by omega) hP0 (by simp)).mono ?_
  rintro e w2 ⟨rfl, hP2, hb2⟩
  have hb2' := hb0.trans hb2
  clear hP0 hb0 hb2
  go_wp2_with fail
  go_loopw [14] (fun i wr => ∃ k : Nat, k ≤ s.size ∧ i = .int .i64 (k : Int) ∧ PB wr w.heap.size (un (preQ (bs s) k)) ∧ Below w.heap.size w wr) (fun i _ => s.size - (intOf i).toNat)
  case atStart => exact ⟨0, Nat.zero_le _, rfl, by simpa [preQ] using hP2, hb2'⟩
  case round =>
    clear hP2 hb2'
    obtain ⟨k, hk, rfl, hP, hb⟩ := hrel
    have hpl := preQ_len (bs s) k (by rw [bs_length]; exact hk)
    have hul : (un (preQ (bs s) k)).length ≤ 600001 := by rw [un_length']; omega
    clear hpl
    by_cases hlt : k < s.size
    · have hbv := bs_at_k hlt
      have HS := Lib.hid (preQ_succ (l := bs s) (k := k) (by rw [bs_length]; exact hlt))
      have hc : (bs s)[k]'(by rw [bs_length]; exact hlt) < 256 := bs_lt _ (List.getElem_mem _)
      generalize (bs s)[k]'(by rw [bs_length]; exact hlt) = c at *
      generalize preQ (bs s) k = pre at *
      have hF := fun W => shortFor_any c W
      have hsl : shortB c < 256 := by
        unfold shortB
        repeat' (first | omega | split)
      by_cases h0 : shortB c = 0
      · have HP : Hid (prB c = if c < 32 then [92, 117, 48, 48, digB (c / 16), digB (c % 16)] else [c]) := Lib.hid (by unfold prB; rw [if_neg (by simp [h0])])
        rw [h0] at hF
        clear h0 hsl
        by_cases h32 : c < 32
        · obtain ⟨d1, e1⟩ := digs_at (show c / 16 < 16 by omega)
          obtain ⟨d2, e2⟩ := digs_at (show c % 16 < 16 by omega)
          unfold digs at d1 e1 d2 e2
          have hand := and15u c hc
          have g1 : digB (c / 16) < 256 := by unfold digB; split <;> omega
          have g2 : digB (c % 16) < 256 := by unfold digB; split <;> omega
          go_wp2_with fail
          refine (hF _).mono ?_
          rintro e w3 ⟨rfl, rfl⟩
          go_wp2_with fail
          refine (pWS _ w.heap.size _ _ hP (by have : (⟨#[92, 117, 48, 48]⟩ : ByteArray).size = 4 := rfl; omega)).mono ?_
          rintro e w4 ⟨rfl, hP4, hb4⟩
          go_wp2_with fail
          refine (pWB _ w.heap.size _ (digB (c / 16)) _ rfl g1 hP4 (by rw [List.length_append]; simp; omega)).mono ?_
          rintro e w5 ⟨rfl, hP5, hb5⟩
          go_wp2_with fail
          refine (pWB _ w.heap.size _ (digB (c % 16)) _ rfl g2 hP5 (by rw [List.length_append, List.length_append, un_length' [digB (c / 16)]]; simp; omega)).mono ?_
          rintro e w6 ⟨rfl, hP6, hb6⟩
          have hP7 : PB w6 w.heap.size (un (preQ (bs s) (k + 1))) := by
            rw [HS.out, HP.out, if_pos h32]
            have := hP6
            simp only [un, List.map_append, List.map_cons, List.map_nil, List.append_assoc, List.cons_append, List.nil_append] at this ⊢
            exact this
          have hb7 := ((hb.trans hb4).trans hb5).trans hb6
          clear e1 e2 d1 d2 hand
          go_wp2
          go_roundw
          case rel => exact ⟨k + 1, hlt, by go_num, hP7, hb7⟩
          case measure => simp [intOf]; omega
        · have h32' : 32 ≤ c := by omega
          have HN : Hid (prB c = [c]) := Lib.hid (by rw [HP.out, if_neg h32])
          clear h32
          go_wp2_with fail
          refine (hF _).mono ?_
          rintro e w3 ⟨rfl, rfl⟩
          go_wp2_with fail
          refine (pWB _ w.heap.size _ c _ rfl hc hP (by omega)).mono ?_
          rintro e w5 ⟨rfl, hP5, hb5⟩
          have hP7 : PB w5 w.heap.size (un (preQ (bs s) (k + 1))) := by
            rw [HS.out, HN.out, un_append]; exact hP5
          have hb7 := hb.trans hb5
          go_wp2
          go_roundw
          case rel => exact ⟨k + 1, hlt, by go_num, hP7, hb7⟩
          case measure => simp [intOf]; omega
      · have HP : Hid (prB c = [92, shortB c]) := Lib.hid (by unfold prB; rw [if_pos h0])
        generalize shortB c = sc at *
        have hbn : ((sc : Int) != 0) = true := by rw [bne_iff_ne]; omega
        clear h0
        go_wp2_with fail
        refine (hF _).mono ?_
        rintro e w3 ⟨rfl, rfl⟩
        go_wp2_with fail
        refine (pWB _ w.heap.size _ 92 _ rfl (by omega) hP (by omega)).mono ?_
        rintro e w4 ⟨rfl, hP4, hb4⟩
        go_wp2_with fail
        refine (pWB _ w.heap.size _ sc _ rfl hsl hP4 (by rw [List.length_append, un_length' [92]]; simp; omega)).mono ?_
        rintro e w5 ⟨rfl, hP5, hb5⟩
        have hP7 : PB w5 w.heap.size (un (preQ (bs s) (k + 1))) := by
          rw [HS.out, HP.out]
          have := hP5
          simp only [un, List.map_append, List.map_cons, List.map_nil, List.append_assoc, List.cons_append, List.nil_append] at this ⊢
          exact this
        have hb7 := (hb.trans hb4).trans hb5
        go_wp2
        go_roundw
        case rel => exact ⟨k + 1, hlt, by go_num, hP7, hb7⟩
        case measure => simp [intOf]; omega
    · have HA := Lib.hid (preQ_all (l := bs s) (k := k) (by rw [bs_length]; omega))
      generalize preQ (bs s) k = pre at *
      go_wp2_with fail
      refine (pWB _ w.heap.size _ 34 _ rfl (by omega) hP (by omega)).mono ?_
      rintro e w4 ⟨rfl, hP4, hb4⟩
      go_wp2_with fail
      refine (pS _ w.heap.size _ hP4 (by rw [List.length_append, un_length' [34]]; simp; omega)).mono ?_
      rintro e w5 ⟨rfl, hb5⟩
      go_wp2
      go_ret2
      exact ⟨by rw [← HA.out, un_append]; rfl, (hb.trans hb4).trans hb5⟩
theorem Print_no (s : ByteArray) (w : World) (hs : s.size ≤ 100000) (hT : Tab w) (hv : (scan (bs s) 0).2.isNone = false) :
    Calls Tryd.prog 13 #[.string s] w fun e w' => e = .returned (.tuple #[.string (strOf []), .int .i64 7]) ∧ Below w.heap.size w w' := by
  have hV := Valid_any s w hT (by omega)
  rw [hv] at hV
  clear hv
  go_enter Tryd.func13, Tryd.ntmps13
  go_wp2_with fail
  refine hV.mono ?_
  rintro e w1 ⟨rfl, rfl⟩
  go_wp2
  go_ret2
  exact ⟨rfl, Below.refl _ _⟩
end Go.Proofs.YtgkgdmpbcneoiaaDoor
