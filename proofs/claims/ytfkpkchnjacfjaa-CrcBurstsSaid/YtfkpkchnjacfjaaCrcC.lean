/- Contracts of functions that the statements on sums reach. No condition but the bounds that each names. -/
import Derived.Test.YtfkpkchnjacfjaaCrcB
import Derived.Test.YtfkpkchnjacfjaaCrcQ
namespace Go.Proofs.Ytfkpkchnjacfjaa
open Go.RowKit Go.Tab

theorem Try.infoB : (Try.prog.info? 5).map (fun i => (i.zero, i.size, i.bytes)) = some (some (.int .u8 0), 1, 1) := by kernel_rfl
theorem Try.sizeB : (Try.prog.info? (Try.prog.elem 22)).map (fun i => i.size) = some 1 := by kernel_rfl
theorem Try.undB : Try.prog.underlying 22 = some (.slice (Try.prog.elem 22)) := by kernel_rfl
theorem oneB : ∀ x : UInt8, (byteV x).oneCell' = true := fun _ => rfl

abbrev OwnB := OwnOf byteV 5

theorem four_cells (n : Nat) (hn : n < 4294967296) : #[Value.int .u8 ((n : Int) % 256), .int .u8 ((n : Int) / 256 % 256), .int .u8 ((n : Int) / 65536 % 256), .int .u8 ((n : Int) / 16777216)]
    = ((four n).map fun c => Value.int .u8 c.toNat).toArray := by
  simp [four]
  omega

theorem four_new (w : World) (n : Nat) (hn : n < 4294967296) (E : TypeId) : BytesAt (w.alloc (.cells #[.int .u8 ((n : Int) % 256), .int .u8 ((n : Int) / 256 % 256), .int .u8 ((n : Int) / 65536 % 256), .int .u8 ((n : Int) / 16777216)] E)) (.slice (some ⟨w.heap.size, 0, none⟩) 4 4) (four n) := by
  rw [four_cells n hn]
  exact bytes_new w (four n) E (0, 0) (by show 4 ≤ maxLen; decide)

set_option maxHeartbeats 400000 in
theorem Seal_any (v : Value) (l : List UInt8) (w : World) (hv : BytesAt w v l) (hlen : l.length ≤ 140737488351232) :
    Calls Try.prog 10 #[v] w fun e w' => ∃ v', e = .returned v' ∧ OwnB w.heap.size w' v' (l ++ four (sum l)) ∧ Below w.heap.size w w' := by
  have hlt := sum_lt l
  obtain ⟨a0, cap, rfl, hl, hm, hn⟩ := hv.len
  unfold maxLen at hm
  go_enter Try.func10, Try.ntmps10
  go_wp2_with fail
  refine (Of_any _ l w hv).mono ?_
  rintro e w1 ⟨rfl, hb1⟩
  have hz1 := hb1.size
  go_wp2_with (with_reducible first | refine stop_append ?_ | refine stop_make ?_ | refine stop_slice ?_ | refine stop_copy ?_); refine Stop.out ?_
  refine wpList_make_row byteV rfl _ _ 22 rfl w.heap.size 5 1 _ Try.underlying22 Try.infoB _ _ _ (l.length + 4) rfl rfl (by omega) (by omega) (by unfold maxLen; omega) (by omega) w hb1 ?_
  intro v2 w2 ho2 hb2 _
  have hz2 := hb2.size
  have hv2 := hv.below hb2 (Nat.le_refl _)
  go_wp2_with (with_reducible first | refine stop_append ?_ | refine stop_make ?_ | refine stop_slice ?_ | refine stop_copy ?_); refine Stop.out ?_
  refine wpList_append_row (f := byteV) rfl _ _ 22 rfl w.heap.size 5 1 _ Try.underlying22 Try.infoB rfl oneB [] l ho2 hv2 (by unfold maxLen; simp; omega) (by simp; omega) (by omega) w hb2 ?_
  intro v3 w3 ho3 hb3 _
  have hz3 := hb3.size
  go_wp2_with (with_reducible first | refine stop_append ?_ | refine stop_make ?_ | refine stop_slice ?_ | refine stop_copy ?_); refine Stop.out ?_
  have hf3 := four_new w3 (sum l) hlt 5
  have hb3' := hb3.alloc hz3 (.cells #[.int .u8 ((sum l : Int) % 256), .int .u8 ((sum l : Int) / 256 % 256), .int .u8 ((sum l : Int) / 65536 % 256), .int .u8 ((sum l : Int) / 16777216)] 5)
  refine wpList_append_row (f := byteV) rfl _ _ 22 rfl w.heap.size 5 1 _ Try.underlying22 Try.infoB rfl oneB _ _ (ho3.alloc _) hf3 (by unfold maxLen; simp [four]; omega) (by simp [four]; omega) (by simp; omega) w hb3' ?_
  intro v4 w4 ho4 hb4 _
  go_wp2
  go_ret
  exact ⟨_, rfl, by simpa using ho4, hb4⟩

set_option maxHeartbeats 400000 in
theorem rSeal_any (v : Value) (l : List UInt8) (w : World) (hv : BytesAt w v l) (hlen : l.length ≤ 140737488351232) :
    Calls Try.prog 19 #[v] w fun e w' => ∃ v', e = .returned v' ∧ OwnB w.heap.size w' v' (l ++ four (sum l)) ∧ Below w.heap.size w w' := by
  have hlt := sum_lt l
  obtain ⟨a0, cap, rfl, hl, hm, hn⟩ := hv.len
  unfold maxLen at hm
  go_enter Try.func19, Try.ntmps19
  go_wp2_with fail
  refine (rOf_any _ l w hv).mono ?_
  rintro e w1 ⟨rfl, rfl⟩
  go_wp2_with (with_reducible first | refine stop_append ?_ | refine stop_make ?_ | refine stop_slice ?_ | refine stop_copy ?_); refine Stop.out ?_
  refine wpList_append_row (f := byteV) rfl _ _ 22 rfl w.heap.size 5 1 _ Try.underlying22 Try.infoB rfl oneB [] l OwnOf.nil hv (by unfold maxLen; simp; omega) (by simp; omega) (by omega) w (Below.refl _ _) ?_
  intro v3 w3 ho3 hb3 _
  have hz3 := hb3.size
  go_wp2_with (with_reducible first | refine stop_append ?_ | refine stop_make ?_ | refine stop_slice ?_ | refine stop_copy ?_); refine Stop.out ?_
  have hf3 := four_new w3 (sum l) hlt 5
  have hb3' := hb3.alloc hz3 (.cells #[.int .u8 ((sum l : Int) % 256), .int .u8 ((sum l : Int) / 256 % 256), .int .u8 ((sum l : Int) / 65536 % 256), .int .u8 ((sum l : Int) / 16777216)] 5)
  refine wpList_append_row (f := byteV) rfl _ _ 22 rfl w.heap.size 5 1 _ Try.underlying22 Try.infoB rfl oneB _ _ (ho3.alloc _) hf3 (by unfold maxLen; simp [four]; omega) (by simp [four]; omega) (by simp; omega) w hb3' ?_
  intro v4 w4 ho4 hb4 _
  go_wp2
  go_ret
  exact ⟨_, rfl, by simpa using ho4, hb4⟩

theorem Sealed_short (v : Value) (l : List UInt8) (w : World) (hv : BytesAt w v l) (hlen : l.length < 4) :
    Calls Try.prog 17 #[v] w fun e w' => e = .returned (.tuple #[.slice none 0 0, .bool false]) ∧ Below w.heap.size w w' := by
  obtain ⟨a0, cap, rfl, hl, hm, hn⟩ := hv.len
  go_enter Try.func17, Try.ntmps17
  go_wp2
  go_ret2
  exact ⟨rfl, Below.refl _ _⟩

theorem ret_pair {v v' : Value} {b b' : Bool} (hv : v = v') (h : b = b') : Ending.returned (.tuple #[v, .bool b]) = .returned (.tuple #[v', .bool b']) := by rw [hv, h]

theorem or4 (a b c d : UInt8) : bits .or .u32 (bits .or .u32 (bits .or .u32 ((a.toNat : Int) % 4294967296) ((b.toNat : Int) % 4294967296 * 256 % 4294967296)) ((c.toNat : Int) % 4294967296 * 65536 % 4294967296)) ((d.toNat : Int) % 4294967296 * 16777216 % 4294967296) = (num4 a b c d : Nat) := by
  have ha := a.toNat_lt; have hb := b.toNat_lt; have hc := c.toNat_lt; have hd := d.toNat_lt
  rw [show ((a.toNat : Int) % 4294967296) = ((a.toNat : Nat) : Int) by omega, show ((b.toNat : Int) % 4294967296 * 256 % 4294967296) = ((b.toNat * 256 : Nat) : Int) by omega,
    show ((c.toNat : Int) % 4294967296 * 65536 % 4294967296) = ((c.toNat * 65536 : Nat) : Int) by omega, show ((d.toNat : Int) % 4294967296 * 16777216 % 4294967296) = ((d.toNat * 16777216 : Nat) : Int) by omega]
  have j1 : a.toNat ||| b.toNat * 256 = a.toNat + b.toNat * 256 := by
    rw [Nat.or_comm, nat_join 8 _ _ (by omega) (by omega)]; omega
  have j2 : (a.toNat + b.toNat * 256) ||| c.toNat * 65536 = a.toNat + b.toNat * 256 + c.toNat * 65536 := by
    rw [Nat.or_comm, nat_join 16 _ _ (by omega) (by omega)]; omega
  have j3 : (a.toNat + b.toNat * 256 + c.toNat * 65536) ||| d.toNat * 16777216 = num4 a b c d := by
    rw [Nat.or_comm, nat_join 24 _ _ (by omega) (by omega)]; unfold num4; omega
  rw [u32_or_nat _ _ (by omega) (by omega), j1, u32_or_nat _ _ (by omega) (by omega), j2, u32_or_nat _ _ (by omega) (by omega), j3]

def SealedPost (w : World) (l : List UInt8) (n : Nat) (e : Ending) (w' : World) : Prop :=
  ((n = sum l ∧ ∃ v', e = .returned (.tuple #[v', .bool true]) ∧ OwnB w.heap.size w' v' l) ∨ (n ≠ sum l ∧ e = .returned (.tuple #[.slice none 0 0, .bool false]))) ∧ Below w.heap.size w w'

set_option maxHeartbeats 800000 in
theorem Sealed_long (v : Value) (l : List UInt8) (a b c d : UInt8) (w : World) (hv : BytesAt w v (l ++ [a, b, c, d])) (hlen : l.length ≤ 140737488351232) :
    Calls Try.prog 17 #[v] w (SealedPost w l (num4 a b c d)) := by
  rcases hv.cases with ⟨h, _⟩ | ⟨bk, off, cap, rfl, hl, hm, hz, hc⟩
  · simp at h
  have hlt := sum_lt l
  simp only [List.length_append, List.length_cons, List.length_nil, Nat.zero_add] at hl hc hv ⊢
  have ha : w.cell? ⟨bk, off + l.length, none⟩ = some (byteV a) := by simpa using hc l.length (by omega)
  have hb : w.cell? ⟨bk, off + (l.length + 1), none⟩ = some (byteV b) := by simpa using hc (l.length + 1) (by omega)
  have hc' : w.cell? ⟨bk, off + (l.length + 2), none⟩ = some (byteV c) := by simpa using hc (l.length + 2) (by omega)
  have hd : w.cell? ⟨bk, off + (l.length + 3), none⟩ = some (byteV d) := by simpa using hc (l.length + 3) (by omega)
  unfold maxLen at hm
  go_enter Try.func17, Try.ntmps17
  go_wp2
  go_quiet (fail)
  go_wp2
  rw [← Nat.add_assoc] at hb hc' hd
  go_quiet (fail)
  rw [or4 a b c d]
  go_wp2_with fail
  clear ha hb hc' hd
  have hrow : BytesAt w (.slice (some ⟨bk, off, none⟩) l.length cap) l := by
    have := (hv.piece (L := 0) (H := l.length) (Nat.zero_le _) (by simp)).1
    simp only [sliced, Nat.zero_mul, List.drop_zero, Nat.sub_zero] at this
    rw [List.take_left] at this
    split at this
    · exact this
    · simpa [Addr.add_lit] using this
  refine (Of_any _ l _ (hrow.drewN _)).mono ?_
  rintro e w1 ⟨rfl, hb1⟩
  have hb2 : Below w.heap.size w w1 := ⟨hb1.os, hb1.tape, hb1.output, hb1.size, hb1.block⟩
  have hrow1 := hrow.below hb2 (Nat.le_refl _)
  have hz1 := hb2.size
  clear hb1
  by_cases h : num4 a b c d = sum l
  · have h1 : ((num4 a b c d : Int) != (sum l : Int)) = false := by simp [h]
    have H : Hid (num4 a b c d = sum l) := h
    clear h
    go_wp2_with (with_reducible first | refine stop_append ?_ | refine stop_make ?_ | refine stop_slice ?_ | refine stop_copy ?_); refine Stop.out ?_
    refine wpList_append_row (f := byteV) rfl _ _ 22 rfl w.heap.size 5 1 _ Try.underlying22 Try.infoB rfl oneB [] l OwnOf.nil (by exact hrow1) (by unfold maxLen; simp; omega) (by simp; omega) (by omega) w hb2 ?_
    intro v3 w3 ho3 hb3 _
    go_wp2
    go_ret2
    exact ⟨.inl ⟨H.out, v3, rfl, ho3⟩, hb3⟩
  · have h1 : ((num4 a b c d : Int) != (sum l : Int)) = true := by simp only [bne_iff_ne, ne_eq]; omega
    have H : Hid (¬ num4 a b c d = sum l) := h
    clear h
    go_wp2
    go_ret2
    exact ⟨.inr ⟨H.out, rfl⟩, hb2⟩

theorem Sealed_yes (v : Value) (l : List UInt8) (a b c d : UInt8) (w : World) (hv : BytesAt w v (l ++ [a, b, c, d])) (hlen : l.length ≤ 140737488351232) (h : num4 a b c d = sum l) :
    Calls Try.prog 17 #[v] w fun e w' => ∃ v', e = .returned (.tuple #[v', .bool true]) ∧ OwnB w.heap.size w' v' l ∧ Below w.heap.size w w' :=
  (Sealed_long v l a b c d w hv hlen).mono fun e w' h' => by
    rcases h' with ⟨⟨_, v', h1, h2⟩ | ⟨h1, _⟩, h3⟩
    · exact ⟨v', h1, h2, h3⟩
    · exact absurd h h1

theorem Sealed_no (v : Value) (l : List UInt8) (a b c d : UInt8) (w : World) (hv : BytesAt w v (l ++ [a, b, c, d])) (hlen : l.length ≤ 140737488351232) (h : num4 a b c d ≠ sum l) :
    Calls Try.prog 17 #[v] w fun e w' => e = .returned (.tuple #[.slice none 0 0, .bool false]) ∧ Below w.heap.size w w' :=
  (Sealed_long v l a b c d w hv hlen).mono fun e w' h' => by
    rcases h' with ⟨⟨h1, _⟩ | ⟨_, h1⟩, h3⟩
    · exact absurd h1 h
    · exact ⟨h1, h3⟩

theorem Same_yes (v1 v2 : Value) (l1 l2 : List UInt8) (w : World) (h1 : BytesAt w v1 l1) (h2 : BytesAt w v2 l2) (h : l1 = l2) :
    Calls Try.prog 18 #[v1, v2] w fun e w' => e = .returned (.bool true) ∧ Below w.heap.size w w' :=
  (Same_any v1 v2 l1 l2 w h1 h2).mono fun e w' ⟨he, n, hw⟩ => ⟨by rw [he]; simp [h], by rw [hw]; exact below_draws _ _ _⟩

theorem Same_no (v1 v2 : Value) (l1 l2 : List UInt8) (w : World) (h1 : BytesAt w v1 l1) (h2 : BytesAt w v2 l2) (h : l1 ≠ l2) :
    Calls Try.prog 18 #[v1, v2] w fun e w' => e = .returned (.bool false) ∧ Below w.heap.size w w' :=
  (Same_any v1 v2 l1 l2 w h1 h2).mono fun e w' ⟨he, n, hw⟩ => ⟨by rw [he]; simp [h], by rw [hw]; exact below_draws _ _ _⟩
end Go.Proofs.Ytfkpkchnjacfjaa
