/- The walk of Great (layer 8): what it tells is left open. -/
import Derived.Test.YtpcfhiipkbpmkaaDoorTreC
namespace Go.Proofs.YtpcfhiipkbpmkaaDoor
open Go.RowKit Go.Tab

def kw : List ByteArray → Nat
  | [] => 0
  | k :: r => k.size / 50 + kw r
mutual
/-- What the reference takes off for a value. -/
def wt : Tree → Nat
  | .mk _ _ _ d _ s ks kids => 1 + ks.length + (s.size + d.size) / 50 + kw ks + wtAll kids
def wtAll : List Tree → Nat
  | [] => 0
  | t :: r => wt t + wtAll r
end
theorem kw_snoc : ∀ (l : List ByteArray) (k : ByteArray), kw (l ++ [k]) = kw l + k.size / 50
  | [], k => by simp [kw]
  | a :: r, k => by simp only [List.cons_append, kw, kw_snoc r k]; omega
theorem kw_take {l : List ByteArray} {k : Nat} (h : k < l.length) : kw (l.take (k + 1)) = kw (l.take k) + l[k].size / 50 := by
  rw [take_snoc' l k h, kw_snoc]
theorem wtAll_snoc : ∀ (l : List Tree) (t : Tree), wtAll (l ++ [t]) = wtAll l + wt t
  | [], t => by simp [wtAll]
  | a :: r, t => by simp only [List.cons_append, wtAll, wtAll_snoc r t]; omega
theorem wtAll_take {l : List Tree} {k : Nat} (h : k < l.length) : wtAll (l.take (k + 1)) = wtAll (l.take k) + wt l[k] := by
  rw [take_snoc' l k h, wtAll_snoc]
theorem ks_kw : ∀ l : List ByteArray, ksBulk l ≤ 50 * (l.length + kw l)
  | [] => by simp [ksBulk]
  | k :: r => by have := ks_kw r; simp only [ksBulk, kw, List.length_cons]; omega
mutual
theorem bulk_wt : ∀ t : Tree, t.bulk ≤ 50 * wt t
  | .mk _ _ _ d _ s ks kids => by
    have := ks_kw ks
    have := bulkAll_wt kids
    simp only [Tree.bulk, wt]; omega
theorem bulkAll_wt : ∀ l : List Tree, bulkAll l ≤ 50 * wtAll l
  | [] => by simp [bulkAll]
  | t :: r => by
    have := bulk_wt t
    have := bulkAll_wt r
    simp only [bulkAll, wtAll]; omega
end
/-- Some number; where it is not below nought, so much has been taken off. -/
def RoomP (left : Int) (t : Tree) (w : World) (e : Ending) (w' : World) : Prop := (∃ m : Int, e = .returned (.int .i64 m) ∧ -1125899906842624 ≤ m ∧ m ≤ 400 ∧ (0 ≤ m → (wt t : Int) ≤ left - m)) ∧ Below w.heap.size w w'
theorem ks_get : ∀ {l : List ByteArray} {k : Nat} (h : k < l.length), l[k].size ≤ ksBulk l
  | t :: r, 0, _ => by simp only [ksBulk, List.getElem_cons_zero]; omega
  | t :: r, k + 1, hk => by
    have := ks_get (l := r) (k := k) (by simpa using hk)
    simp only [ksBulk, List.getElem_cons_succ]; omega


set_option maxHeartbeats 4000000 in
set_option maxRecDepth 100000 in
theorem room_step (n : Nat) (IH : ∀ (t : Tree), t.bulk ≤ n → Fits t → ∀ (dp left : Int) (w : World) (cs : List Value), ValAt w t cs → 1 ≤ dp ∧ dp ≤ 71 → 0 ≤ left ∧ left ≤ 400 →
      Calls Tryd.prog 47 #[valV cs, .int .i64 dp, .int .i64 left] w (RoomP left t w))
    (kind : Int) (is neg : Bool) (digits : ByteArray) (exp : Int) (str : ByteArray) (keys : List ByteArray) (kids : List Tree)
    (h : (Tree.mk kind is neg digits exp str keys kids).bulk ≤ n + 1) (hf : Fits (Tree.mk kind is neg digits exp str keys kids))
    (dp left : Int) (w : World) (cs : List Value) (hv : ValAt w (.mk kind is neg digits exp str keys kids) cs) (hdp : 1 ≤ dp ∧ dp ≤ 71) (hleft : 0 ≤ left ∧ left ≤ 400) :
    Calls Tryd.prog 47 #[valV cs, .int .i64 dp, .int .i64 left] w (RoomP left (.mk kind is neg digits exp str keys kids) w) := by
  have hkb : bulkAll kids ≤ n := by simp only [Tree.bulk] at h; omega
  simp only [Fits] at hf
  obtain ⟨hf1, hf2, hf3, -, hf4, hf5⟩ := hf
  obtain ⟨W, hW⟩ : ∃ W, W = wt (.mk kind is neg digits exp str keys kids) := ⟨_, rfl⟩
  have hW2 : W = 1 + keys.length + (str.size + digits.size) / 50 + kw keys + wtAll kids := hW
  unfold RoomP
  rw [← hW]
  have HW := Lib.hid hW2
  clear hW hW2
  simp only [ValAt] at hv
  obtain ⟨kv, a, cap, rfl, hk, hl, hm, hnil, hx⟩ := hv
  obtain ⟨ka, kc, rfl, hkl0, hkm0, -⟩ := hk.len
  have hll := len_bulk kids
  have hlk := len_ks keys
  unfold maxLen at hm hkm0
  simp only [valV]
  clear h
  have hx0 := Cells.new w #[.int .i64 kind, .bool is, .bool neg, .string digits, .int .i64 exp, .string str, .slice ka keys.length kc, .slice a kids.length cap] 27
  have hb0 : Below w.heap.size w (w.alloc (.cells #[.int .i64 kind, .bool is, .bool neg, .string digits, .int .i64 exp, .string str, .slice ka keys.length kc, .slice a kids.length cap] 27)) := (Below.refl _ w).alloc (Nat.le_refl _) _
  by_cases hbad : 70 < dp ∨ (dp ≤ 70 ∧ 2000 < str.size) ∨ (dp ≤ 70 ∧ str.size ≤ 2000 ∧ 1200 < digits.size)
  · rcases hbad with hbad | hbad | hbad
    all_goals
      go_enter Tryd.func47, Tryd.ntmps47
      go_wp2
      go_ret
      exact ⟨⟨_, rfl, by omega, by omega, fun h => by omega⟩, hb0⟩
  · have hok : dp ≤ 70 ∧ str.size ≤ 2000 ∧ digits.size ≤ 1200 := by omega
    clear hbad
    have hk1 := hk.alloc (.cells #[.int .i64 kind, .bool is, .bool neg, .string digits, .int .i64 exp, .string str, .slice ka keys.length kc, .slice a kids.length cap] 27)
    go_enter Tryd.func47, Tryd.ntmps47
    go_wp2_with fail
    go_loop [2, 7] (fun lv i => ∃ (k : Nat) (m : Int), k ≤ keys.length ∧ i = .int .i64 (k : Int) ∧ lv = .int .i64 m ∧ -1125899906842624 ≤ m ∧ m ≤ 400 ∧ m + 1 + keys.length + ((str.size + digits.size) / 50 : Nat) + kw (keys.take k) ≤ left) (fun _ i => keys.length - (intOf i).toNat)
    case atStart => exact ⟨0, _, Nat.zero_le _, rfl, rfl, by omega, by omega, by simp only [List.take_zero, kw]; omega⟩
    case round =>
      obtain ⟨k, m, hkk, rfl, rfl, hm1, hm2, hm3⟩ := hrel
      have HM3 := Lib.hid hm3
      clear hm3
      have hx0c0 := hx0.cell 0 _ rfl
      have hx0f0 := hx0.frozen 0
      have hx0c1 := hx0.cell 1 _ rfl
      have hx0f1 := hx0.frozen 1
      have hx0c2 := hx0.cell 2 _ rfl
      have hx0f2 := hx0.frozen 2
      have hx0c3 := hx0.cell 3 _ rfl
      have hx0f3 := hx0.frozen 3
      have hx0c4 := hx0.cell 4 _ rfl
      have hx0f4 := hx0.frozen 4
      have hx0c5 := hx0.cell 5 _ rfl
      have hx0f5 := hx0.frozen 5
      have hx0c6 := hx0.cell 6 _ rfl
      have hx0f6 := hx0.frozen 6
      have hx0c7 := hx0.cell 7 _ rfl
      have hx0f7 := hx0.frozen 7
      by_cases hgo : k < keys.length ∧ 0 ≤ m
      · obtain ⟨hkl, hm0⟩ := hgo
        obtain ⟨bb, off, rfl, hlt, hcell⟩ := hk1.at hkl
        have hck := hcell k hkl
        have HKT := Lib.hid (kw_take hkl)
        clear hcell
        generalize keys[k] = key at *
        by_cases hbig : 2000 < key.size
        · go_wp2
          go_ret
          exact ⟨⟨_, rfl, by omega, by omega, fun h => by omega⟩, hb0⟩
        · have hbig' : key.size ≤ 2000 := by omega
          clear hbig
          go_wp2
          go_round
          case rel => exact ⟨k + 1, _, hkl, by go_num, rfl, by omega, by omega, by have := HM3.out; have := HKT.out; omega⟩
          case measure => simp [intOf]; omega
      · have hend : k = keys.length ∨ (k < keys.length ∧ m < 0) := by omega
        clear hgo
        have hstop : Hid (k = keys.length ∨ (k < keys.length ∧ m < 0)) := Lib.hid hend
        clear hend
        rcases hstop.out with rfl | ⟨hkl, hm0⟩
        all_goals
          go_wp2_with fail
          go_loopw [2, 8] (fun lv i wr => ∃ (k : Nat) (m : Int), k ≤ kids.length ∧ i = .int .i64 (k : Int) ∧ lv = .int .i64 m ∧ -1125899906842624 ≤ m ∧ m ≤ 400 ∧ (0 ≤ m → m + 1 + keys.length + ((str.size + digits.size) / 50 : Nat) + kw keys + wtAll (kids.take k) ≤ left) ∧ Below w.heap.size w wr ∧ Cells wr w.heap.size #[.int .i64 kind, .bool is, .bool neg, .string digits, .int .i64 exp, .string str, .slice ka keys.length kc, .slice a kids.length cap] 27) (fun _ i _ => kids.length - (intOf i).toNat)
          case atStart => exact ⟨0, _, Nat.zero_le _, rfl, rfl, hm1, hm2, by
            have := HM3.out
            simp only [List.take_zero, wtAll]
            first | (rw [List.take_length] at this; omega) | (intro h; omega), hb0, hx0⟩
          case round =>
            clear hx0c0 hx0c1 hx0c2 hx0c3 hx0c4 hx0c5 hx0c6 hx0c7 hx0f0 hx0f1 hx0f2 hx0f3 hx0f4 hx0f5 hx0f6 hx0f7 hb0 hx0 hstop hk1
            clear HM3
            obtain ⟨k, m, hkk, rfl, rfl, hm1, hm2, hm3, hb, hX⟩ := hrel
            have HM3 := Lib.hid hm3
            clear hm3
            have hXl := hX.lt
            have hXc0 := hX.cell 0 _ rfl
            have hXf0 := hX.frozen 0
            have hXc1 := hX.cell 1 _ rfl
            have hXf1 := hX.frozen 1
            have hXc2 := hX.cell 2 _ rfl
            have hXf2 := hX.frozen 2
            have hXc3 := hX.cell 3 _ rfl
            have hXf3 := hX.frozen 3
            have hXc4 := hX.cell 4 _ rfl
            have hXf4 := hX.frozen 4
            have hXc5 := hX.cell 5 _ rfl
            have hXf5 := hX.frozen 5
            have hXc6 := hX.cell 6 _ rfl
            have hXf6 := hX.frozen 6
            have hXc7 := hX.cell 7 _ rfl
            have hXf7 := hX.frozen 7
            by_cases hgo : k < kids.length ∧ 0 ≤ m
            · obtain ⟨hkl, hm0⟩ := hgo
              have hne : kids ≠ [] := by intro h0; rw [h0] at hkl; simp at hkl
              cases a with
              | none => have := hnil rfl; omega
              | some x =>
                obtain ⟨bb, off, sp⟩ := x
                obtain ⟨rfl, hlt, hkids⟩ := hx _ rfl hne
                simp only at hlt hkids
                obtain ⟨kc0, hkc, hkv⟩ := KidsAt.get (KidsAt.below hb (hlt) kids _ hkids) k hkl
                obtain ⟨kkind, kis, kneg, kdig, kexp, kstr, kka, kkn, kkc, ksa, ksn, ksc, rfl, m0, m1, m2, m3, m4, m5, m6, m7⟩ := kid_at hkv hkc
                have hkbk := bulk_kid hkl
                have hIH := IH kids[k] (by omega) (Fits.kid hkl hf5) (dp + 1) m wr _ hkv (by omega) (by omega)
                have HKT := Lib.hid (wtAll_take hkl)
                generalize kids[k] = kid at *
                go_wp2_with fail
                refine hIH.mono ?_
                clear hIH hkv hkc
                rintro e w2 ⟨⟨m', rfl, g1, g2, g3⟩, hb2⟩
                have HG3 := Lib.hid g3
                clear g3
                have hb3 := hb.trans (hb2.mono hb.size)
                have hX2 := hX.below hb2 hXl
                clear hXc0 hXc1 hXc2 hXc3 hXc4 hXc5 hXc6 hXc7 hXf0 hXf1 hXf2 hXf3 hXf4 hXf5 hXf6 hXf7
                go_wp2
                go_roundw
                case rel => exact ⟨k + 1, m', hkl, by go_num, rfl, g1, g2, (fun h => by have := HM3.out (by omega); have := HG3.out h; have := HKT.out; omega), hb3, hX2⟩
                case measure => simp [intOf]; omega
            · have hend : k = kids.length ∨ (k < kids.length ∧ m < 0) := by omega
              clear hgo
              rcases hend with rfl | ⟨hkl, hm0⟩
              · go_wp2
                go_ret
                exact ⟨⟨_, rfl, by omega, by omega, fun h => by have := HM3.out h; rw [List.take_length] at this; have := HW.out; omega⟩, hb⟩
              · go_wp2
                go_ret
                exact ⟨⟨_, rfl, by omega, by omega, fun h => by omega⟩, hb⟩

theorem room_any (n : Nat) : ∀ (t : Tree), t.bulk ≤ n → Fits t → ∀ (dp left : Int) (w : World) (cs : List Value), ValAt w t cs → 1 ≤ dp ∧ dp ≤ 71 → 0 ≤ left ∧ left ≤ 400 →
    Calls Tryd.prog 47 #[valV cs, .int .i64 dp, .int .i64 left] w (RoomP left t w) := by
  induction n with
  | zero => intro t h; have := bulk_pos t; omega
  | succ n IH =>
    intro t h hmax dp left w cs hv hdp hleft
    cases t with
    | mk kind is neg digits exp str keys kids => exact room_step n IH kind is neg digits exp str keys kids h hmax dp left w cs hv hdp hleft

set_option maxHeartbeats 4000000 in
set_option maxRecDepth 100000 in
theorem Great_any (t : Tree) (hf : Fits t) (w : World) (cs : List Value) (hv : ValAt w t cs) :
    Calls Tryd.prog 15 #[valV cs] w fun e w' => (∃ b, e = .returned (.bool b) ∧ (b = false → t.bulk ≤ 20000)) ∧ Below w.heap.size w w' := by
  have hR := fun w cs hv => room_any t.bulk t (Nat.le_refl _) hf 1 400 w cs hv (by omega) (by omega)
  have HBW := Lib.hid (bulk_wt t)
  cases t with
  | mk kind is neg digits exp str keys kids =>
    have hv0 := hv
    simp only [ValAt] at hv
    obtain ⟨kv, a, cap, rfl, hk, hl, hm, hnil, hx⟩ := hv
    obtain ⟨ka, kc, rfl, hkl0, hkm0, -⟩ := hk.len
    have hll := len_bulk kids
    have hlk := len_ks keys
    unfold maxLen at hm hkm0
    have hv1 := hv0.below_alloc (.cells #[.int .i64 kind, .bool is, .bool neg, .string digits, .int .i64 exp, .string str, .slice ka keys.length kc, .slice a kids.length cap] 27)
    have hR1 := hR _ _ hv1
    clear hv0 hv1 hR hf
    simp only [valV]
    go_enter Tryd.func15, Tryd.ntmps15
    go_wp2_with fail
    refine hR1.mono ?_
    rintro e w2 ⟨⟨m', rfl, g1, g2, g3⟩, hb2⟩
    have HG3 := Lib.hid g3
    clear g3 hR1
    go_wp2
    go_ret
    exact ⟨⟨_, rfl, fun h => by have h2 := of_decide_eq_false h; have := HG3.out (by omega); have := HBW.out; omega⟩, ((Below.refl _ w).alloc (Nat.le_refl _) _).trans (hb2.mono (by simp))⟩
end Go.Proofs.YtpcfhiipkbpmkaaDoor
