/- Contracts of List and the reference's All. -/
import Derived.Test.YtoccanppfdeggaaVarH
namespace Go.Proofs.Ytoccanppfdeggaa
open Go.RowKit Go.Tab

set_option maxHeartbeats 800000 in
set_option maxRecDepth 100000 in
theorem List_any (v : Value) (l : List Nat) (w : World) (hv : RowOf numV w v l) (hl : l.length ≤ 60) (hs : ∀ n ∈ l, n < 18446744073709551616) :
    Calls Try.prog 22 #[v] w fun e w' => ∃ v', e = .returned v' ∧ OwnB w.heap.size w' v' (putAll l) ∧ Below w.heap.size w w' := by
  obtain ⟨a, cap, rfl, h1, h2, -⟩ := hv.len
  unfold maxLen at h2
  have HS := Lib.hid hs
  clear hs
  go_enter Try.func22, Try.ntmps22
  go_wp2_with fail
  go_loopw [3, 8] (fun v' i wr => ∃ k : Nat, k ≤ l.length ∧ i = .int .i64 k ∧ OwnB w.heap.size wr v' (putAll (l.take k)) ∧ Below w.heap.size w wr) (fun _ i _ => l.length - (intOf i).toNat)
  case atStart => exact ⟨0, by omega, rfl, by simpa [putAll] using OwnOf.nil, Below.refl _ _⟩
  case round =>
    obtain ⟨k, hk, rfl, ho, hb⟩ := hrel
    by_cases h : k < l.length
    · obtain ⟨b, off, rfl, hbl, hc⟩ := hv.at h
      have hck := (hb.cell (p := ⟨b, off + k, none⟩) hbl).trans (hc k h)
      unfold numV at hck
      have hnl := putAll_length (l.take k) (fun n hn => HS.out n (List.mem_of_mem_take hn))
      have htk : (l.take k).length ≤ 60 := by rw [List.length_take]; omega
      have hsz := hb.size
      have HC := Lib.hid (add_any _ _ l[k] w.heap.size w wr ho (HS.out _ (List.getElem_mem h)) hsz hb (by omega))
      have HT := Lib.hid (take_snoc l k h)
      clear ho hc
      generalize l[k] = x at *
      go_wp2_with fail
      refine HC.out.mono ?_
      rintro e w2 ⟨v2, rfl, ho2, hb2⟩
      clear HC
      go_wp2_with fail
      go_roundw
      case rel => exact ⟨k + 1, by omega, by go_num, by rw [HT.out, putAll_snoc]; exact ho2, hb2⟩
      case measure => simp [intOf]; omega
    · obtain rfl : k = l.length := by omega
      rw [List.take_length] at ho
      go_wp2_with fail
      go_ret
      exact ⟨_, rfl, ho, hb⟩

theorem num_new (w : World) (n : Nat) (E : TypeId) : RowOf numV (w.alloc (.cells #[.int .u64 (n : Int)] E)) (.slice (some ⟨w.heap.size, 0, none⟩) 1 1) [n] :=
  (OwnOf.lit (f := numV) (E := E) (base := w.heap.size) [n] (Nat.le_refl _) (by show 1 ≤ maxLen; decide)).row
theorem num_new_at (w : World) (n : Nat) (E : TypeId) (b : Nat) (hb : b = w.heap.size) : RowOf numV (w.alloc (.cells #[.int .u64 (n : Int)] E)) (.slice (some ⟨b, 0, none⟩) 1 1) [n] := by
  subst hb
  exact num_new w n E

set_option maxHeartbeats 800000 in
set_option maxRecDepth 100000 in
theorem rAll_any (v : Value) (l : List UInt8) (w : World) (hv : BytesAt w v l) (hl : l.length ≤ 300) :
    Calls Try.prog 21 #[v] w fun e w' => ∃ v', e = .returned v' ∧ OwnN w.heap.size w' v' (nums l) ∧ Below w.heap.size w w' := by
  have hvk := hv
  obtain ⟨a, cap, rfl, h1, h2, -⟩ := hv.len
  unfold maxLen at h2
  go_enter Try.func21, Try.ntmps21
  go_wp2_with fail
  go_loopw [3, 4] (fun v' i wr => ∃ (k : Nat) (d : List Nat), k ≤ l.length ∧ i = .int .i64 k ∧ OwnN w.heap.size wr v' d ∧ nums l = d ++ nums (l.drop k) ∧ Below w.heap.size w wr) (fun _ i _ => l.length - (intOf i).toNat)
  case atStart => exact ⟨0, [], by omega, rfl, OwnOf.nil, rfl, Below.refl _ _⟩
  case round =>
    obtain ⟨k, d, hk, rfl, ho, he, hb⟩ := hrel
    have hz := hb.size
    have hd : d.length ≤ 300 := by
      have h3 := congrArg List.length he
      have h4 := nums_length l.length l (Nat.le_refl _)
      rw [List.length_append] at h3
      omega
    have HE := Lib.hid he
    clear he
    go_wp2_with (with_reducible first | refine stop_append ?_ | refine stop_make ?_ | refine stop_slice ?_ | refine stop_copy ?_); refine Stop.out ?_
    refine wpList_slice_l rfl _ _ 22 rfl Try.undB Try.sizeB l (by exact hvk.below hb (Nat.le_refl _)) _ _ k rfl rfl hk ?_
    intro v3 hr3 _
    go_wp2_with fail
    refine (rGet_any v3 _ wr hr3).mono ?_
    rintro e w3 ⟨rfl, hb3⟩
    have hz3 := hb3.size
    have ho3 := ho.below hb3 (Nat.le_refl _)
    have hb03 := hb.trans (hb3.mono hz)
    obtain ⟨N, s, e, hg⟩ : ∃ N s e, get (l.drop k) = (N, s, e) := ⟨_, _, _, rfl⟩
    rw [hg]
    unfold getA
    by_cases hee : e = 0
    · subst hee
      obtain ⟨hs1, hs2, -⟩ := get_pos hg
      have HN := Lib.hid (nums_step hg)
      rw [List.length_drop] at hs2
      have HG := Lib.hid hg
      clear hg
      go_wp2_with (with_reducible first | refine stop_append ?_ | refine stop_make ?_ | refine stop_slice ?_ | refine stop_copy ?_); refine Stop.out ?_
      refine wpList_append_row (f := numV) rfl _ _ 38 rfl w.heap.size 24 8 _ Try.underlying38 Try.infoN rfl oneN d [N] (by exact (ho3.alloc _).alloc _) (by exact num_new_at _ N _ _ (by simp)) (by unfold maxLen; simp; omega) (by simp; omega) (by simp; omega) w (by exact (hb03.alloc (by omega) _).alloc (by simp; omega) _) ?_
      intro v5 w5 ho5 hb5 hg5
      have hlt3 := fun q h => (World.ownsRow.lt ho3 q h).2
      have hc5 : w5.cell? ⟨w3.heap.size, 1, none⟩ = some (.int .i64 (s : Int)) := by
        refine (World.cell?_of_block (a := ⟨w3.heap.size, 1, none⟩) (hg5.block w3.heap.size (by simp; omega) (fun h => absurd (hlt3 _ h.symm) (Nat.lt_irrefl _)))).trans ?_
        rw [World.cell?_alloc_past _ _ _ (by simp), World.cell?_alloc_mark]
        simp
      clear hg5 hlt3 ho ho3
      go_wp2_with fail
      go_roundw
      case rel => exact ⟨k + s, d ++ [N], by omega, by go_num, ho5, by rw [HE.out, HN.out, List.drop_drop]; simp, hb5⟩
      case measure => simp [intOf]; omega
    · have HN := Lib.hid (nums_stop hg hee)
      have hne : ((e : Int) != 0) = true := by simp; omega
      clear hg
      go_wp2_with fail
      go_ret
      exact ⟨_, rfl, by rw [HE.out, HN.out, List.append_nil]; exact ho3.alloc _, hb03.alloc (by omega) _⟩
end Go.Proofs.Ytoccanppfdeggaa
