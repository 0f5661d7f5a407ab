/- NumCompares (layer 6): the walk. -/
import Derived.Test.YthiggalnjjcejaaDoorNuM
namespace Go.Proofs.YthiggalnjjcejaaDoor
set_option linter.unusedSimpArgs false
set_option linter.unusedVariables false
open Go.RowKit Go.Tab

theorem cb_eq : ∀ (a b : List UInt8), Lib.compareBytes a b = 0 → a = b
  | [], [], _ => rfl
  | [], _ :: _, h => by simp [Lib.compareBytes] at h
  | _ :: _, [], h => by simp [Lib.compareBytes] at h
  | x :: a, y :: b, h => by
    simp only [Lib.compareBytes] at h
    split at h
    · omega
    · split at h
      · omega
      · next h1 h2 =>
        have hxy : x = y := by
          rw [UInt8.lt_iff_toNat_lt] at h1 h2
          exact UInt8.toNat_inj.1 (by omega)
        rw [hxy, cb_eq a b h]
theorem cmpO_zero {n1 : Bool} {d1 : ByteArray} {e1 : Int} {n2 : Bool} {d2 : ByteArray} {e2 : Int} (r1 : numR n1 d1 e1 = true) (r2 : numR n2 d2 e2 = true) (h : cmpO n1 d1 e1 n2 d2 e2 = 0) : n1 = n2 ∧ d1 = d2 ∧ e1 = e2 := by
  rw [cmpO, r1, r2, if_pos (by decide), cmpN] at h
  split at h
  · omega
  · split at h
    · omega
    · next p1 p2 =>
      have hs : sideN n1 d1 = sideN n2 d2 := by omega
      rcases numR_list (neg := n1) (d := d1.data.toList) (e := e1) (by rw [← strL_of]; exact r1) with ⟨a1, a2, a3⟩ | a
      · rcases numR_list (neg := n2) (d := d2.data.toList) (e := e2) (by rw [← strL_of]; exact r2) with ⟨b1, b2, b3⟩ | b
        · exact ⟨by rw [a2, b2], str_ext (by rw [a1, b1]), by rw [a3, b3]⟩
        · have hz1 : d1.size = 0 := by rw [size_list, a1]; rfl
          have hz2 : ¬ d2.size = 0 := by rw [size_list]; exact len_pos b.ne
          rw [sideN, sideN, if_pos hz1, if_neg hz2] at hs
          cases n2 <;> simp at hs
      · have hz1 : ¬ d1.size = 0 := by rw [size_list]; exact len_pos a.ne
        rcases numR_list (neg := n2) (d := d2.data.toList) (e := e2) (by rw [← strL_of]; exact r2) with ⟨b1, b2, b3⟩ | b
        · have hz2 : d2.size = 0 := by rw [size_list, b1]; rfl
          rw [sideN, sideN, if_neg hz1, if_pos hz2] at hs
          cases n1 <;> simp at hs
        · have hz2 : ¬ d2.size = 0 := by rw [size_list]; exact len_pos b.ne
          have hm : magN d1 e1 d2 e2 = 0 := by
            rw [sideN, if_neg hz1] at h
            cases n1 <;> simp at h <;> omega
          rw [sideN, sideN, if_neg hz1, if_neg hz2] at hs
          have hn : n1 = n2 := by cases n1 <;> cases n2 <;> simp at hs <;> rfl
          rw [magN] at hm
          split at hm
          · omega
          · split at hm
            · omega
            · next q1 q2 =>
              have hd := str_ext (cb_eq _ _ hm)
              subst hd
              exact ⟨hn, rfl, by omega⟩
theorem cmpO_anti (n1 : Bool) (d1 : ByteArray) (e1 : Int) (n2 : Bool) (d2 : ByteArray) (e2 : Int) : cmpO n2 d2 e2 n1 d1 e1 = - cmpO n1 d1 e1 n2 d2 e2 := by
  rw [cmpO, cmpO, Bool.and_comm, cmpN_anti]
  split
  · rfl
  · rfl
theorem cmpO_b (n1 : Bool) (d1 : ByteArray) (e1 : Int) (n2 : Bool) (d2 : ByteArray) (e2 : Int) : -1 ≤ cmpO n1 d1 e1 n2 d2 e2 ∧ cmpO n1 d1 e1 n2 d2 e2 ≤ 1 := by
  rw [cmpO]
  split
  · rw [cmpN]
    split
    · omega
    · split
      · omega
      · have h1 : -1 ≤ magN d1 e1 d2 e2 ∧ magN d1 e1 d2 e2 ≤ 1 := by
          rw [magN]
          split
          · omega
          · split
            · omega
            · exact cb_bounds _ _
        rcases side_cases n1 d1 with h | h | h <;> rw [h] <;> omega
  · omega

set_option maxHeartbeats 4000000 in
set_option maxRecDepth 100000 in
theorem NumCompares_walk (nb0 : Bool) (nd0 : ByteArray) (ne0 : Int) (nb1 : Bool) (nd1 : ByteArray) (ne1 : Int) (w : World)
    (w0 : nd0.size ≤ maxLen ∧ (Lit.int .i64 ne0).wf = true) (w1 : nd1.size ≤ maxLen ∧ (Lit.int .i64 ne1).wf = true) (hT : NumTab w) :
    Calls Tryd.prog 6 #[.agg #[.bool nb0, .string nd0, .int .i64 ne0], .agg #[.bool nb1, .string nd1, .int .i64 ne1]] w fun e w' => e = .returned (.bool true) ∧ Below w.heap.size w w' := by
  replace w0 := w0.1
  replace w1 := w1.1
  unfold maxLen at w0 w1
  have hb0 : Below w.heap.size w ((w.alloc (.cells #[.bool nb0, .string nd0, .int .i64 ne0] 24)).alloc (.cells #[.bool nb1, .string nd1, .int .i64 ne1] 24)) := ((Below.refl _ w).alloc (Nat.le_refl _) _).alloc (by simp) _
  have a := (Cells.new w #[.bool nb0, .string nd0, .int .i64 ne0] 24).alloc (.cells #[.bool nb1, .string nd1, .int .i64 ne1] 24)
  have b := Cells.new (w.alloc (.cells #[.bool nb0, .string nd0, .int .i64 ne0] 24)) #[.bool nb1, .string nd1, .int .i64 ne1] 24
  rw [World.size_alloc] at b
  have hWW := wakes_any _ (hT.below hb0)
  have HB := Lib.hid hb0
  have H2 := Lib.hid (And.intro a b)
  have ac0 := a.cell 0 _ rfl
  have af0 := a.frozen 0
  have ac1 := a.cell 1 _ rfl
  have af1 := a.frozen 1
  have ac2 := a.cell 2 _ rfl
  have af2 := a.frozen 2
  have bc0 := b.cell 0 _ rfl
  have bf0 := b.frozen 0
  have bc1 := b.cell 1 _ rfl
  have bf1 := b.frozen 1
  have bc2 := b.cell 2 _ rfl
  have bf2 := b.frozen 2
  clear a b hb0 hT
  by_cases g0 : 1200 < nd0.size
  · go_enter Tryd.func6, Tryd.ntmps6
    go_wp2_with fail
    refine hWW.mono ?_
    rintro _ wx ⟨rfl, hbx⟩
    have hbN := HB.out.trans (hbx.mono HB.out.size)
    have h2N := (H2.out.1.below hbx H2.out.1.lt)
    have h2M := (H2.out.2.below hbx H2.out.2.lt)
    have HBN := Lib.hid hbN
    have H2N := Lib.hid (And.intro h2N h2M)
    clear hbx hbN HB H2 ac0 ac1 ac2 af0 af1 af2 bc0 bc1 bc2 bf0 bf1 bf2
    have HB := HBN
    have H2 := H2N
    clear HBN H2N
    have a := h2N
    have b := h2M
    have ac0 := a.cell 0 _ rfl
    have af0 := a.frozen 0
    have ac1 := a.cell 1 _ rfl
    have af1 := a.frozen 1
    have ac2 := a.cell 2 _ rfl
    have af2 := a.frozen 2
    have bc0 := b.cell 0 _ rfl
    have bf0 := b.frozen 0
    have bc1 := b.cell 1 _ rfl
    have bf1 := b.frozen 1
    have bc2 := b.cell 2 _ rfl
    have bf2 := b.frozen 2
    clear a b h2N h2M
    go_wp2
    go_ret
    exact ⟨rfl, HB.out⟩
  by_cases g1 : 1200 < nd1.size
  · go_enter Tryd.func6, Tryd.ntmps6
    go_wp2_with fail
    refine hWW.mono ?_
    rintro _ wx ⟨rfl, hbx⟩
    have hbN := HB.out.trans (hbx.mono HB.out.size)
    have h2N := (H2.out.1.below hbx H2.out.1.lt)
    have h2M := (H2.out.2.below hbx H2.out.2.lt)
    have HBN := Lib.hid hbN
    have H2N := Lib.hid (And.intro h2N h2M)
    clear hbx hbN HB H2 ac0 ac1 ac2 af0 af1 af2 bc0 bc1 bc2 bf0 bf1 bf2
    have HB := HBN
    have H2 := H2N
    clear HBN H2N
    have a := h2N
    have b := h2M
    have ac0 := a.cell 0 _ rfl
    have af0 := a.frozen 0
    have ac1 := a.cell 1 _ rfl
    have af1 := a.frozen 1
    have ac2 := a.cell 2 _ rfl
    have af2 := a.frozen 2
    have bc0 := b.cell 0 _ rfl
    have bf0 := b.frozen 0
    have bc1 := b.cell 1 _ rfl
    have bf1 := b.frozen 1
    have bc2 := b.cell 2 _ rfl
    have bf2 := b.frozen 2
    clear a b h2N h2M
    go_wp2
    go_ret
    exact ⟨rfl, HB.out⟩
  have hC := fun W => Compare_any nb0 nd0 ne0 nb1 nd1 ne1 W (by omega) (by omega)
  have hD := fun W => Compare_any nb1 nd1 ne1 nb0 nd0 ne0 W (by omega) (by omega)
  have hE := fun W => rCompare_any nb0 nd0 ne0 nb1 nd1 ne1 W (by omega) (by omega)
  have hR0 := fun W => rNumRight_any nb0 nd0 ne0 W (by omega)
  have hR1 := fun W => rNumRight_any nb1 nd1 ne1 W (by omega)
  rw [cmpO_anti] at hD
  have hzb := cmpO_b nb0 nd0 ne0 nb1 nd1 ne1
  have HZ := Lib.hid (fun r1 r2 => cmpO_zero (n1 := nb0) (d1 := nd0) (e1 := ne0) (n2 := nb1) (d2 := nd1) (e2 := ne1) r1 r2)
  generalize cmpO nb0 nd0 ne0 nb1 nd1 ne1 = z at hC hD hE hzb HZ
  by_cases hz : z = 0
  · subst hz
    have hD2 : ∀ W, Calls Tryd.prog 19 #[.agg #[.bool nb1, .string nd1, .int .i64 ne1], .agg #[.bool nb0, .string nd0, .int .i64 ne0]] W fun r w' => r = .returned (.int .i64 0) ∧ Below W.heap.size W w' := hD
    clear hD
    by_cases heq : nb0 = nb1 ∧ nd0 = nd1 ∧ ne0 = ne1
    · obtain ⟨rfl, rfl, rfl⟩ := heq
      clear HZ hR0 hR1 hzb
      go_enter Tryd.func6, Tryd.ntmps6
      go_wp2_with fail
      refine hWW.mono ?_
      clear hWW
      rintro _ wx ⟨rfl, hbx⟩
      have hbN := HB.out.trans (hbx.mono HB.out.size)
      have h2N := (H2.out.1.below hbx H2.out.1.lt)
      have h2M := (H2.out.2.below hbx H2.out.2.lt)
      have HBN := Lib.hid hbN
      have H2N := Lib.hid (And.intro h2N h2M)
      clear hbx hbN HB H2 ac0 ac1 ac2 af0 af1 af2 bc0 bc1 bc2 bf0 bf1 bf2
      have HB := HBN
      have H2 := H2N
      clear HBN H2N
      have a := h2N
      have b := h2M
      have ac0 := a.cell 0 _ rfl
      have af0 := a.frozen 0
      have ac1 := a.cell 1 _ rfl
      have af1 := a.frozen 1
      have ac2 := a.cell 2 _ rfl
      have af2 := a.frozen 2
      have bc0 := b.cell 0 _ rfl
      have bf0 := b.frozen 0
      have bc1 := b.cell 1 _ rfl
      have bf1 := b.frozen 1
      have bc2 := b.cell 2 _ rfl
      have bf2 := b.frozen 2
      clear a b h2N h2M
      go_wp2_with fail
      refine (hC _).mono ?_
      rintro _ wx ⟨rfl, hbx⟩
      have hbN := HB.out.trans (hbx.mono HB.out.size)
      have h2N := (H2.out.1.below hbx H2.out.1.lt)
      have h2M := (H2.out.2.below hbx H2.out.2.lt)
      have HBN := Lib.hid hbN
      have H2N := Lib.hid (And.intro h2N h2M)
      clear hbx hbN HB H2 ac0 ac1 ac2 af0 af1 af2 bc0 bc1 bc2 bf0 bf1 bf2
      have HB := HBN
      have H2 := H2N
      clear HBN H2N
      have a := h2N
      have b := h2M
      have ac0 := a.cell 0 _ rfl
      have af0 := a.frozen 0
      have ac1 := a.cell 1 _ rfl
      have af1 := a.frozen 1
      have ac2 := a.cell 2 _ rfl
      have af2 := a.frozen 2
      have bc0 := b.cell 0 _ rfl
      have bf0 := b.frozen 0
      have bc1 := b.cell 1 _ rfl
      have bf1 := b.frozen 1
      have bc2 := b.cell 2 _ rfl
      have bf2 := b.frozen 2
      clear a b h2N h2M
      go_wp2_with fail
      refine (hE _).mono ?_
      rintro _ wx ⟨rfl, hbx⟩
      have hbN := HB.out.trans (hbx.mono HB.out.size)
      have h2N := (H2.out.1.below hbx H2.out.1.lt)
      have h2M := (H2.out.2.below hbx H2.out.2.lt)
      have HBN := Lib.hid hbN
      have H2N := Lib.hid (And.intro h2N h2M)
      clear hbx hbN HB H2 ac0 ac1 ac2 af0 af1 af2 bc0 bc1 bc2 bf0 bf1 bf2
      have HB := HBN
      have H2 := H2N
      clear HBN H2N
      have a := h2N
      have b := h2M
      have ac0 := a.cell 0 _ rfl
      have af0 := a.frozen 0
      have ac1 := a.cell 1 _ rfl
      have af1 := a.frozen 1
      have ac2 := a.cell 2 _ rfl
      have af2 := a.frozen 2
      have bc0 := b.cell 0 _ rfl
      have bf0 := b.frozen 0
      have bc1 := b.cell 1 _ rfl
      have bf1 := b.frozen 1
      have bc2 := b.cell 2 _ rfl
      have bf2 := b.frozen 2
      clear a b h2N h2M
      go_wp2_with fail
      refine (hD2 _).mono ?_
      rintro _ wx ⟨rfl, hbx⟩
      have hbN := HB.out.trans (hbx.mono HB.out.size)
      have h2N := (H2.out.1.below hbx H2.out.1.lt)
      have h2M := (H2.out.2.below hbx H2.out.2.lt)
      have HBN := Lib.hid hbN
      have H2N := Lib.hid (And.intro h2N h2M)
      clear hbx hbN HB H2 ac0 ac1 ac2 af0 af1 af2 bc0 bc1 bc2 bf0 bf1 bf2
      have HB := HBN
      have H2 := H2N
      clear HBN H2N
      have a := h2N
      have b := h2M
      have ac0 := a.cell 0 _ rfl
      have af0 := a.frozen 0
      have ac1 := a.cell 1 _ rfl
      have af1 := a.frozen 1
      have ac2 := a.cell 2 _ rfl
      have af2 := a.frozen 2
      have bc0 := b.cell 0 _ rfl
      have bf0 := b.frozen 0
      have bc1 := b.cell 1 _ rfl
      have bf1 := b.frozen 1
      have bc2 := b.cell 2 _ rfl
      have bf2 := b.frozen 2
      clear a b h2N h2M
      go_wp2
      go_ret
      exact ⟨rfl, HB.out⟩
    · have hnr : numR nb0 nd0 ne0 = false ∨ (numR nb0 nd0 ne0 = true ∧ numR nb1 nd1 ne1 = false) := by
        cases r0 : numR nb0 nd0 ne0 with
        | false => exact .inl rfl
        | true =>
          cases r1 : numR nb1 nd1 ne1 with
          | false => exact .inr ⟨rfl, rfl⟩
          | true => exact absurd (HZ.out r0 r1 rfl) heq
      clear HZ hzb
      have hcs : (nb0 = true ∧ nb1 = false) ∨ (nb0 = false ∧ nb1 = true) ∨ (nb0 = nb1 ∧ ¬ nd0.toList = nd1.toList) ∨ (nb0 = nb1 ∧ nd0 = nd1 ∧ ¬ ne0 = ne1) := by
        by_cases h1 : nb0 = nb1
        · by_cases h2 : nd0 = nd1
          · exact .inr (.inr (.inr ⟨h1, h2, fun e => heq ⟨h1, h2, e⟩⟩))
          · exact .inr (.inr (.inl ⟨h1, fun e => h2 (str_ext (by rw [← ByteArray.toList_eq, ← ByteArray.toList_eq, e]))⟩))
        · cases nb0 <;> cases nb1
          · exact absurd rfl h1
          · exact .inr (.inl ⟨rfl, rfl⟩)
          · exact .inl ⟨rfl, rfl⟩
          · exact absurd rfl h1
      clear heq
      rcases hcs with ⟨rfl, rfl⟩ | ⟨rfl, rfl⟩ | ⟨rfl, hd⟩ | ⟨rfl, rfl, he⟩
      · rcases hnr with h | ⟨h, h2⟩
        · skip
          rw [h] at hR0
          clear h hR1
          go_enter Tryd.func6, Tryd.ntmps6
          go_wp2_with fail
          refine hWW.mono ?_
          clear hWW
          rintro _ wx ⟨rfl, hbx⟩
          have hbN := HB.out.trans (hbx.mono HB.out.size)
          have h2N := (H2.out.1.below hbx H2.out.1.lt)
          have h2M := (H2.out.2.below hbx H2.out.2.lt)
          have HBN := Lib.hid hbN
          have H2N := Lib.hid (And.intro h2N h2M)
          clear hbx hbN HB H2 ac0 ac1 ac2 af0 af1 af2 bc0 bc1 bc2 bf0 bf1 bf2
          have HB := HBN
          have H2 := H2N
          clear HBN H2N
          have a := h2N
          have b := h2M
          have ac0 := a.cell 0 _ rfl
          have af0 := a.frozen 0
          have ac1 := a.cell 1 _ rfl
          have af1 := a.frozen 1
          have ac2 := a.cell 2 _ rfl
          have af2 := a.frozen 2
          have bc0 := b.cell 0 _ rfl
          have bf0 := b.frozen 0
          have bc1 := b.cell 1 _ rfl
          have bf1 := b.frozen 1
          have bc2 := b.cell 2 _ rfl
          have bf2 := b.frozen 2
          clear a b h2N h2M
          go_wp2_with fail
          refine (hC _).mono ?_
          rintro _ wx ⟨rfl, hbx⟩
          have hbN := HB.out.trans (hbx.mono HB.out.size)
          have h2N := (H2.out.1.below hbx H2.out.1.lt)
          have h2M := (H2.out.2.below hbx H2.out.2.lt)
          have HBN := Lib.hid hbN
          have H2N := Lib.hid (And.intro h2N h2M)
          clear hbx hbN HB H2 ac0 ac1 ac2 af0 af1 af2 bc0 bc1 bc2 bf0 bf1 bf2
          have HB := HBN
          have H2 := H2N
          clear HBN H2N
          have a := h2N
          have b := h2M
          have ac0 := a.cell 0 _ rfl
          have af0 := a.frozen 0
          have ac1 := a.cell 1 _ rfl
          have af1 := a.frozen 1
          have ac2 := a.cell 2 _ rfl
          have af2 := a.frozen 2
          have bc0 := b.cell 0 _ rfl
          have bf0 := b.frozen 0
          have bc1 := b.cell 1 _ rfl
          have bf1 := b.frozen 1
          have bc2 := b.cell 2 _ rfl
          have bf2 := b.frozen 2
          clear a b h2N h2M
          go_wp2_with fail
          refine (hE _).mono ?_
          rintro _ wx ⟨rfl, hbx⟩
          have hbN := HB.out.trans (hbx.mono HB.out.size)
          have h2N := (H2.out.1.below hbx H2.out.1.lt)
          have h2M := (H2.out.2.below hbx H2.out.2.lt)
          have HBN := Lib.hid hbN
          have H2N := Lib.hid (And.intro h2N h2M)
          clear hbx hbN HB H2 ac0 ac1 ac2 af0 af1 af2 bc0 bc1 bc2 bf0 bf1 bf2
          have HB := HBN
          have H2 := H2N
          clear HBN H2N
          have a := h2N
          have b := h2M
          have ac0 := a.cell 0 _ rfl
          have af0 := a.frozen 0
          have ac1 := a.cell 1 _ rfl
          have af1 := a.frozen 1
          have ac2 := a.cell 2 _ rfl
          have af2 := a.frozen 2
          have bc0 := b.cell 0 _ rfl
          have bf0 := b.frozen 0
          have bc1 := b.cell 1 _ rfl
          have bf1 := b.frozen 1
          have bc2 := b.cell 2 _ rfl
          have bf2 := b.frozen 2
          clear a b h2N h2M
          go_wp2_with fail
          refine (hD2 _).mono ?_
          rintro _ wx ⟨rfl, hbx⟩
          have hbN := HB.out.trans (hbx.mono HB.out.size)
          have h2N := (H2.out.1.below hbx H2.out.1.lt)
          have h2M := (H2.out.2.below hbx H2.out.2.lt)
          have HBN := Lib.hid hbN
          have H2N := Lib.hid (And.intro h2N h2M)
          clear hbx hbN HB H2 ac0 ac1 ac2 af0 af1 af2 bc0 bc1 bc2 bf0 bf1 bf2
          have HB := HBN
          have H2 := H2N
          clear HBN H2N
          have a := h2N
          have b := h2M
          have ac0 := a.cell 0 _ rfl
          have af0 := a.frozen 0
          have ac1 := a.cell 1 _ rfl
          have af1 := a.frozen 1
          have ac2 := a.cell 2 _ rfl
          have af2 := a.frozen 2
          have bc0 := b.cell 0 _ rfl
          have bf0 := b.frozen 0
          have bc1 := b.cell 1 _ rfl
          have bf1 := b.frozen 1
          have bc2 := b.cell 2 _ rfl
          have bf2 := b.frozen 2
          clear a b h2N h2M
          go_wp2_with fail
          refine (hR0 _).mono ?_
          rintro _ wx ⟨rfl, hbx⟩
          have hbN := HB.out.trans (hbx.mono HB.out.size)
          have h2N := (H2.out.1.below hbx H2.out.1.lt)
          have h2M := (H2.out.2.below hbx H2.out.2.lt)
          have HBN := Lib.hid hbN
          have H2N := Lib.hid (And.intro h2N h2M)
          clear hbx hbN HB H2 ac0 ac1 ac2 af0 af1 af2 bc0 bc1 bc2 bf0 bf1 bf2
          have HB := HBN
          have H2 := H2N
          clear HBN H2N
          have a := h2N
          have b := h2M
          have ac0 := a.cell 0 _ rfl
          have af0 := a.frozen 0
          have ac1 := a.cell 1 _ rfl
          have af1 := a.frozen 1
          have ac2 := a.cell 2 _ rfl
          have af2 := a.frozen 2
          have bc0 := b.cell 0 _ rfl
          have bf0 := b.frozen 0
          have bc1 := b.cell 1 _ rfl
          have bf1 := b.frozen 1
          have bc2 := b.cell 2 _ rfl
          have bf2 := b.frozen 2
          clear a b h2N h2M
          go_wp2
          go_ret
          exact ⟨rfl, HB.out⟩
        · skip
          rw [h] at hR0
          rw [h2] at hR1
          clear h h2
          go_enter Tryd.func6, Tryd.ntmps6
          go_wp2_with fail
          refine hWW.mono ?_
          clear hWW
          rintro _ wx ⟨rfl, hbx⟩
          have hbN := HB.out.trans (hbx.mono HB.out.size)
          have h2N := (H2.out.1.below hbx H2.out.1.lt)
          have h2M := (H2.out.2.below hbx H2.out.2.lt)
          have HBN := Lib.hid hbN
          have H2N := Lib.hid (And.intro h2N h2M)
          clear hbx hbN HB H2 ac0 ac1 ac2 af0 af1 af2 bc0 bc1 bc2 bf0 bf1 bf2
          have HB := HBN
          have H2 := H2N
          clear HBN H2N
          have a := h2N
          have b := h2M
          have ac0 := a.cell 0 _ rfl
          have af0 := a.frozen 0
          have ac1 := a.cell 1 _ rfl
          have af1 := a.frozen 1
          have ac2 := a.cell 2 _ rfl
          have af2 := a.frozen 2
          have bc0 := b.cell 0 _ rfl
          have bf0 := b.frozen 0
          have bc1 := b.cell 1 _ rfl
          have bf1 := b.frozen 1
          have bc2 := b.cell 2 _ rfl
          have bf2 := b.frozen 2
          clear a b h2N h2M
          go_wp2_with fail
          refine (hC _).mono ?_
          rintro _ wx ⟨rfl, hbx⟩
          have hbN := HB.out.trans (hbx.mono HB.out.size)
          have h2N := (H2.out.1.below hbx H2.out.1.lt)
          have h2M := (H2.out.2.below hbx H2.out.2.lt)
          have HBN := Lib.hid hbN
          have H2N := Lib.hid (And.intro h2N h2M)
          clear hbx hbN HB H2 ac0 ac1 ac2 af0 af1 af2 bc0 bc1 bc2 bf0 bf1 bf2
          have HB := HBN
          have H2 := H2N
          clear HBN H2N
          have a := h2N
          have b := h2M
          have ac0 := a.cell 0 _ rfl
          have af0 := a.frozen 0
          have ac1 := a.cell 1 _ rfl
          have af1 := a.frozen 1
          have ac2 := a.cell 2 _ rfl
          have af2 := a.frozen 2
          have bc0 := b.cell 0 _ rfl
          have bf0 := b.frozen 0
          have bc1 := b.cell 1 _ rfl
          have bf1 := b.frozen 1
          have bc2 := b.cell 2 _ rfl
          have bf2 := b.frozen 2
          clear a b h2N h2M
          go_wp2_with fail
          refine (hE _).mono ?_
          rintro _ wx ⟨rfl, hbx⟩
          have hbN := HB.out.trans (hbx.mono HB.out.size)
          have h2N := (H2.out.1.below hbx H2.out.1.lt)
          have h2M := (H2.out.2.below hbx H2.out.2.lt)
          have HBN := Lib.hid hbN
          have H2N := Lib.hid (And.intro h2N h2M)
          clear hbx hbN HB H2 ac0 ac1 ac2 af0 af1 af2 bc0 bc1 bc2 bf0 bf1 bf2
          have HB := HBN
          have H2 := H2N
          clear HBN H2N
          have a := h2N
          have b := h2M
          have ac0 := a.cell 0 _ rfl
          have af0 := a.frozen 0
          have ac1 := a.cell 1 _ rfl
          have af1 := a.frozen 1
          have ac2 := a.cell 2 _ rfl
          have af2 := a.frozen 2
          have bc0 := b.cell 0 _ rfl
          have bf0 := b.frozen 0
          have bc1 := b.cell 1 _ rfl
          have bf1 := b.frozen 1
          have bc2 := b.cell 2 _ rfl
          have bf2 := b.frozen 2
          clear a b h2N h2M
          go_wp2_with fail
          refine (hD2 _).mono ?_
          rintro _ wx ⟨rfl, hbx⟩
          have hbN := HB.out.trans (hbx.mono HB.out.size)
          have h2N := (H2.out.1.below hbx H2.out.1.lt)
          have h2M := (H2.out.2.below hbx H2.out.2.lt)
          have HBN := Lib.hid hbN
          have H2N := Lib.hid (And.intro h2N h2M)
          clear hbx hbN HB H2 ac0 ac1 ac2 af0 af1 af2 bc0 bc1 bc2 bf0 bf1 bf2
          have HB := HBN
          have H2 := H2N
          clear HBN H2N
          have a := h2N
          have b := h2M
          have ac0 := a.cell 0 _ rfl
          have af0 := a.frozen 0
          have ac1 := a.cell 1 _ rfl
          have af1 := a.frozen 1
          have ac2 := a.cell 2 _ rfl
          have af2 := a.frozen 2
          have bc0 := b.cell 0 _ rfl
          have bf0 := b.frozen 0
          have bc1 := b.cell 1 _ rfl
          have bf1 := b.frozen 1
          have bc2 := b.cell 2 _ rfl
          have bf2 := b.frozen 2
          clear a b h2N h2M
          go_wp2_with fail
          refine (hR0 _).mono ?_
          rintro _ wx ⟨rfl, hbx⟩
          have hbN := HB.out.trans (hbx.mono HB.out.size)
          have h2N := (H2.out.1.below hbx H2.out.1.lt)
          have h2M := (H2.out.2.below hbx H2.out.2.lt)
          have HBN := Lib.hid hbN
          have H2N := Lib.hid (And.intro h2N h2M)
          clear hbx hbN HB H2 ac0 ac1 ac2 af0 af1 af2 bc0 bc1 bc2 bf0 bf1 bf2
          have HB := HBN
          have H2 := H2N
          clear HBN H2N
          have a := h2N
          have b := h2M
          have ac0 := a.cell 0 _ rfl
          have af0 := a.frozen 0
          have ac1 := a.cell 1 _ rfl
          have af1 := a.frozen 1
          have ac2 := a.cell 2 _ rfl
          have af2 := a.frozen 2
          have bc0 := b.cell 0 _ rfl
          have bf0 := b.frozen 0
          have bc1 := b.cell 1 _ rfl
          have bf1 := b.frozen 1
          have bc2 := b.cell 2 _ rfl
          have bf2 := b.frozen 2
          clear a b h2N h2M
          go_wp2_with fail
          refine (hR1 _).mono ?_
          rintro _ wx ⟨rfl, hbx⟩
          have hbN := HB.out.trans (hbx.mono HB.out.size)
          have h2N := (H2.out.1.below hbx H2.out.1.lt)
          have h2M := (H2.out.2.below hbx H2.out.2.lt)
          have HBN := Lib.hid hbN
          have H2N := Lib.hid (And.intro h2N h2M)
          clear hbx hbN HB H2 ac0 ac1 ac2 af0 af1 af2 bc0 bc1 bc2 bf0 bf1 bf2
          have HB := HBN
          have H2 := H2N
          clear HBN H2N
          have a := h2N
          have b := h2M
          have ac0 := a.cell 0 _ rfl
          have af0 := a.frozen 0
          have ac1 := a.cell 1 _ rfl
          have af1 := a.frozen 1
          have ac2 := a.cell 2 _ rfl
          have af2 := a.frozen 2
          have bc0 := b.cell 0 _ rfl
          have bf0 := b.frozen 0
          have bc1 := b.cell 1 _ rfl
          have bf1 := b.frozen 1
          have bc2 := b.cell 2 _ rfl
          have bf2 := b.frozen 2
          clear a b h2N h2M
          go_wp2
          go_ret
          exact ⟨rfl, HB.out⟩
      · rcases hnr with h | ⟨h, h2⟩
        · skip
          rw [h] at hR0
          clear h hR1
          go_enter Tryd.func6, Tryd.ntmps6
          go_wp2_with fail
          refine hWW.mono ?_
          clear hWW
          rintro _ wx ⟨rfl, hbx⟩
          have hbN := HB.out.trans (hbx.mono HB.out.size)
          have h2N := (H2.out.1.below hbx H2.out.1.lt)
          have h2M := (H2.out.2.below hbx H2.out.2.lt)
          have HBN := Lib.hid hbN
          have H2N := Lib.hid (And.intro h2N h2M)
          clear hbx hbN HB H2 ac0 ac1 ac2 af0 af1 af2 bc0 bc1 bc2 bf0 bf1 bf2
          have HB := HBN
          have H2 := H2N
          clear HBN H2N
          have a := h2N
          have b := h2M
          have ac0 := a.cell 0 _ rfl
          have af0 := a.frozen 0
          have ac1 := a.cell 1 _ rfl
          have af1 := a.frozen 1
          have ac2 := a.cell 2 _ rfl
          have af2 := a.frozen 2
          have bc0 := b.cell 0 _ rfl
          have bf0 := b.frozen 0
          have bc1 := b.cell 1 _ rfl
          have bf1 := b.frozen 1
          have bc2 := b.cell 2 _ rfl
          have bf2 := b.frozen 2
          clear a b h2N h2M
          go_wp2_with fail
          refine (hC _).mono ?_
          rintro _ wx ⟨rfl, hbx⟩
          have hbN := HB.out.trans (hbx.mono HB.out.size)
          have h2N := (H2.out.1.below hbx H2.out.1.lt)
          have h2M := (H2.out.2.below hbx H2.out.2.lt)
          have HBN := Lib.hid hbN
          have H2N := Lib.hid (And.intro h2N h2M)
          clear hbx hbN HB H2 ac0 ac1 ac2 af0 af1 af2 bc0 bc1 bc2 bf0 bf1 bf2
          have HB := HBN
          have H2 := H2N
          clear HBN H2N
          have a := h2N
          have b := h2M
          have ac0 := a.cell 0 _ rfl
          have af0 := a.frozen 0
          have ac1 := a.cell 1 _ rfl
          have af1 := a.frozen 1
          have ac2 := a.cell 2 _ rfl
          have af2 := a.frozen 2
          have bc0 := b.cell 0 _ rfl
          have bf0 := b.frozen 0
          have bc1 := b.cell 1 _ rfl
          have bf1 := b.frozen 1
          have bc2 := b.cell 2 _ rfl
          have bf2 := b.frozen 2
          clear a b h2N h2M
          go_wp2_with fail
          refine (hE _).mono ?_
          rintro _ wx ⟨rfl, hbx⟩
          have hbN := HB.out.trans (hbx.mono HB.out.size)
          have h2N := (H2.out.1.below hbx H2.out.1.lt)
          have h2M := (H2.out.2.below hbx H2.out.2.lt)
          have HBN := Lib.hid hbN
          have H2N := Lib.hid (And.intro h2N h2M)
          clear hbx hbN HB H2 ac0 ac1 ac2 af0 af1 af2 bc0 bc1 bc2 bf0 bf1 bf2
          have HB := HBN
          have H2 := H2N
          clear HBN H2N
          have a := h2N
          have b := h2M
          have ac0 := a.cell 0 _ rfl
          have af0 := a.frozen 0
          have ac1 := a.cell 1 _ rfl
          have af1 := a.frozen 1
          have ac2 := a.cell 2 _ rfl
          have af2 := a.frozen 2
          have bc0 := b.cell 0 _ rfl
          have bf0 := b.frozen 0
          have bc1 := b.cell 1 _ rfl
          have bf1 := b.frozen 1
          have bc2 := b.cell 2 _ rfl
          have bf2 := b.frozen 2
          clear a b h2N h2M
          go_wp2_with fail
          refine (hD2 _).mono ?_
          rintro _ wx ⟨rfl, hbx⟩
          have hbN := HB.out.trans (hbx.mono HB.out.size)
          have h2N := (H2.out.1.below hbx H2.out.1.lt)
          have h2M := (H2.out.2.below hbx H2.out.2.lt)
          have HBN := Lib.hid hbN
          have H2N := Lib.hid (And.intro h2N h2M)
          clear hbx hbN HB H2 ac0 ac1 ac2 af0 af1 af2 bc0 bc1 bc2 bf0 bf1 bf2
          have HB := HBN
          have H2 := H2N
          clear HBN H2N
          have a := h2N
          have b := h2M
          have ac0 := a.cell 0 _ rfl
          have af0 := a.frozen 0
          have ac1 := a.cell 1 _ rfl
          have af1 := a.frozen 1
          have ac2 := a.cell 2 _ rfl
          have af2 := a.frozen 2
          have bc0 := b.cell 0 _ rfl
          have bf0 := b.frozen 0
          have bc1 := b.cell 1 _ rfl
          have bf1 := b.frozen 1
          have bc2 := b.cell 2 _ rfl
          have bf2 := b.frozen 2
          clear a b h2N h2M
          go_wp2_with fail
          refine (hR0 _).mono ?_
          rintro _ wx ⟨rfl, hbx⟩
          have hbN := HB.out.trans (hbx.mono HB.out.size)
          have h2N := (H2.out.1.below hbx H2.out.1.lt)
          have h2M := (H2.out.2.below hbx H2.out.2.lt)
          have HBN := Lib.hid hbN
          have H2N := Lib.hid (And.intro h2N h2M)
          clear hbx hbN HB H2 ac0 ac1 ac2 af0 af1 af2 bc0 bc1 bc2 bf0 bf1 bf2
          have HB := HBN
          have H2 := H2N
          clear HBN H2N
          have a := h2N
          have b := h2M
          have ac0 := a.cell 0 _ rfl
          have af0 := a.frozen 0
          have ac1 := a.cell 1 _ rfl
          have af1 := a.frozen 1
          have ac2 := a.cell 2 _ rfl
          have af2 := a.frozen 2
          have bc0 := b.cell 0 _ rfl
          have bf0 := b.frozen 0
          have bc1 := b.cell 1 _ rfl
          have bf1 := b.frozen 1
          have bc2 := b.cell 2 _ rfl
          have bf2 := b.frozen 2
          clear a b h2N h2M
          go_wp2
          go_ret
          exact ⟨rfl, HB.out⟩
        · skip
          rw [h] at hR0
          rw [h2] at hR1
          clear h h2
          go_enter Tryd.func6, Tryd.ntmps6
          go_wp2_with fail
          refine hWW.mono ?_
          clear hWW
          rintro _ wx ⟨rfl, hbx⟩
          have hbN := HB.out.trans (hbx.mono HB.out.size)
          have h2N := (H2.out.1.below hbx H2.out.1.lt)
          have h2M := (H2.out.2.below hbx H2.out.2.lt)
          have HBN := Lib.hid hbN
          have H2N := Lib.hid (And.intro h2N h2M)
          clear hbx hbN HB H2 ac0 ac1 ac2 af0 af1 af2 bc0 bc1 bc2 bf0 bf1 bf2
          have HB := HBN
          have H2 := H2N
          clear HBN H2N
          have a := h2N
          have b := h2M
          have ac0 := a.cell 0 _ rfl
          have af0 := a.frozen 0
          have ac1 := a.cell 1 _ rfl
          have af1 := a.frozen 1
          have ac2 := a.cell 2 _ rfl
          have af2 := a.frozen 2
          have bc0 := b.cell 0 _ rfl
          have bf0 := b.frozen 0
          have bc1 := b.cell 1 _ rfl
          have bf1 := b.frozen 1
          have bc2 := b.cell 2 _ rfl
          have bf2 := b.frozen 2
          clear a b h2N h2M
          go_wp2_with fail
          refine (hC _).mono ?_
          rintro _ wx ⟨rfl, hbx⟩
          have hbN := HB.out.trans (hbx.mono HB.out.size)
          have h2N := (H2.out.1.below hbx H2.out.1.lt)
          have h2M := (H2.out.2.below hbx H2.out.2.lt)
          have HBN := Lib.hid hbN
          have H2N := Lib.hid (And.intro h2N h2M)
          clear hbx hbN HB H2 ac0 ac1 ac2 af0 af1 af2 bc0 bc1 bc2 bf0 bf1 bf2
          have HB := HBN
          have H2 := H2N
          clear HBN H2N
          have a := h2N
          have b := h2M
          have ac0 := a.cell 0 _ rfl
          have af0 := a.frozen 0
          have ac1 := a.cell 1 _ rfl
          have af1 := a.frozen 1
          have ac2 := a.cell 2 _ rfl
          have af2 := a.frozen 2
          have bc0 := b.cell 0 _ rfl
          have bf0 := b.frozen 0
          have bc1 := b.cell 1 _ rfl
          have bf1 := b.frozen 1
          have bc2 := b.cell 2 _ rfl
          have bf2 := b.frozen 2
          clear a b h2N h2M
          go_wp2_with fail
          refine (hE _).mono ?_
          rintro _ wx ⟨rfl, hbx⟩
          have hbN := HB.out.trans (hbx.mono HB.out.size)
          have h2N := (H2.out.1.below hbx H2.out.1.lt)
          have h2M := (H2.out.2.below hbx H2.out.2.lt)
          have HBN := Lib.hid hbN
          have H2N := Lib.hid (And.intro h2N h2M)
          clear hbx hbN HB H2 ac0 ac1 ac2 af0 af1 af2 bc0 bc1 bc2 bf0 bf1 bf2
          have HB := HBN
          have H2 := H2N
          clear HBN H2N
          have a := h2N
          have b := h2M
          have ac0 := a.cell 0 _ rfl
          have af0 := a.frozen 0
          have ac1 := a.cell 1 _ rfl
          have af1 := a.frozen 1
          have ac2 := a.cell 2 _ rfl
          have af2 := a.frozen 2
          have bc0 := b.cell 0 _ rfl
          have bf0 := b.frozen 0
          have bc1 := b.cell 1 _ rfl
          have bf1 := b.frozen 1
          have bc2 := b.cell 2 _ rfl
          have bf2 := b.frozen 2
          clear a b h2N h2M
          go_wp2_with fail
          refine (hD2 _).mono ?_
          rintro _ wx ⟨rfl, hbx⟩
          have hbN := HB.out.trans (hbx.mono HB.out.size)
          have h2N := (H2.out.1.below hbx H2.out.1.lt)
          have h2M := (H2.out.2.below hbx H2.out.2.lt)
          have HBN := Lib.hid hbN
          have H2N := Lib.hid (And.intro h2N h2M)
          clear hbx hbN HB H2 ac0 ac1 ac2 af0 af1 af2 bc0 bc1 bc2 bf0 bf1 bf2
          have HB := HBN
          have H2 := H2N
          clear HBN H2N
          have a := h2N
          have b := h2M
          have ac0 := a.cell 0 _ rfl
          have af0 := a.frozen 0
          have ac1 := a.cell 1 _ rfl
          have af1 := a.frozen 1
          have ac2 := a.cell 2 _ rfl
          have af2 := a.frozen 2
          have bc0 := b.cell 0 _ rfl
          have bf0 := b.frozen 0
          have bc1 := b.cell 1 _ rfl
          have bf1 := b.frozen 1
          have bc2 := b.cell 2 _ rfl
          have bf2 := b.frozen 2
          clear a b h2N h2M
          go_wp2_with fail
          refine (hR0 _).mono ?_
          rintro _ wx ⟨rfl, hbx⟩
          have hbN := HB.out.trans (hbx.mono HB.out.size)
          have h2N := (H2.out.1.below hbx H2.out.1.lt)
          have h2M := (H2.out.2.below hbx H2.out.2.lt)
          have HBN := Lib.hid hbN
          have H2N := Lib.hid (And.intro h2N h2M)
          clear hbx hbN HB H2 ac0 ac1 ac2 af0 af1 af2 bc0 bc1 bc2 bf0 bf1 bf2
          have HB := HBN
          have H2 := H2N
          clear HBN H2N
          have a := h2N
          have b := h2M
          have ac0 := a.cell 0 _ rfl
          have af0 := a.frozen 0
          have ac1 := a.cell 1 _ rfl
          have af1 := a.frozen 1
          have ac2 := a.cell 2 _ rfl
          have af2 := a.frozen 2
          have bc0 := b.cell 0 _ rfl
          have bf0 := b.frozen 0
          have bc1 := b.cell 1 _ rfl
          have bf1 := b.frozen 1
          have bc2 := b.cell 2 _ rfl
          have bf2 := b.frozen 2
          clear a b h2N h2M
          go_wp2_with fail
          refine (hR1 _).mono ?_
          rintro _ wx ⟨rfl, hbx⟩
          have hbN := HB.out.trans (hbx.mono HB.out.size)
          have h2N := (H2.out.1.below hbx H2.out.1.lt)
          have h2M := (H2.out.2.below hbx H2.out.2.lt)
          have HBN := Lib.hid hbN
          have H2N := Lib.hid (And.intro h2N h2M)
          clear hbx hbN HB H2 ac0 ac1 ac2 af0 af1 af2 bc0 bc1 bc2 bf0 bf1 bf2
          have HB := HBN
          have H2 := H2N
          clear HBN H2N
          have a := h2N
          have b := h2M
          have ac0 := a.cell 0 _ rfl
          have af0 := a.frozen 0
          have ac1 := a.cell 1 _ rfl
          have af1 := a.frozen 1
          have ac2 := a.cell 2 _ rfl
          have af2 := a.frozen 2
          have bc0 := b.cell 0 _ rfl
          have bf0 := b.frozen 0
          have bc1 := b.cell 1 _ rfl
          have bf1 := b.frozen 1
          have bc2 := b.cell 2 _ rfl
          have bf2 := b.frozen 2
          clear a b h2N h2M
          go_wp2
          go_ret
          exact ⟨rfl, HB.out⟩
      · rcases hnr with h | ⟨h, h2⟩
        · skip
          rw [h] at hR0
          clear h hR1
          go_enter Tryd.func6, Tryd.ntmps6
          go_wp2_with fail
          refine hWW.mono ?_
          clear hWW
          rintro _ wx ⟨rfl, hbx⟩
          have hbN := HB.out.trans (hbx.mono HB.out.size)
          have h2N := (H2.out.1.below hbx H2.out.1.lt)
          have h2M := (H2.out.2.below hbx H2.out.2.lt)
          have HBN := Lib.hid hbN
          have H2N := Lib.hid (And.intro h2N h2M)
          clear hbx hbN HB H2 ac0 ac1 ac2 af0 af1 af2 bc0 bc1 bc2 bf0 bf1 bf2
          have HB := HBN
          have H2 := H2N
          clear HBN H2N
          have a := h2N
          have b := h2M
          have ac0 := a.cell 0 _ rfl
          have af0 := a.frozen 0
          have ac1 := a.cell 1 _ rfl
          have af1 := a.frozen 1
          have ac2 := a.cell 2 _ rfl
          have af2 := a.frozen 2
          have bc0 := b.cell 0 _ rfl
          have bf0 := b.frozen 0
          have bc1 := b.cell 1 _ rfl
          have bf1 := b.frozen 1
          have bc2 := b.cell 2 _ rfl
          have bf2 := b.frozen 2
          clear a b h2N h2M
          go_wp2_with fail
          refine (hC _).mono ?_
          rintro _ wx ⟨rfl, hbx⟩
          have hbN := HB.out.trans (hbx.mono HB.out.size)
          have h2N := (H2.out.1.below hbx H2.out.1.lt)
          have h2M := (H2.out.2.below hbx H2.out.2.lt)
          have HBN := Lib.hid hbN
          have H2N := Lib.hid (And.intro h2N h2M)
          clear hbx hbN HB H2 ac0 ac1 ac2 af0 af1 af2 bc0 bc1 bc2 bf0 bf1 bf2
          have HB := HBN
          have H2 := H2N
          clear HBN H2N
          have a := h2N
          have b := h2M
          have ac0 := a.cell 0 _ rfl
          have af0 := a.frozen 0
          have ac1 := a.cell 1 _ rfl
          have af1 := a.frozen 1
          have ac2 := a.cell 2 _ rfl
          have af2 := a.frozen 2
          have bc0 := b.cell 0 _ rfl
          have bf0 := b.frozen 0
          have bc1 := b.cell 1 _ rfl
          have bf1 := b.frozen 1
          have bc2 := b.cell 2 _ rfl
          have bf2 := b.frozen 2
          clear a b h2N h2M
          go_wp2_with fail
          refine (hE _).mono ?_
          rintro _ wx ⟨rfl, hbx⟩
          have hbN := HB.out.trans (hbx.mono HB.out.size)
          have h2N := (H2.out.1.below hbx H2.out.1.lt)
          have h2M := (H2.out.2.below hbx H2.out.2.lt)
          have HBN := Lib.hid hbN
          have H2N := Lib.hid (And.intro h2N h2M)
          clear hbx hbN HB H2 ac0 ac1 ac2 af0 af1 af2 bc0 bc1 bc2 bf0 bf1 bf2
          have HB := HBN
          have H2 := H2N
          clear HBN H2N
          have a := h2N
          have b := h2M
          have ac0 := a.cell 0 _ rfl
          have af0 := a.frozen 0
          have ac1 := a.cell 1 _ rfl
          have af1 := a.frozen 1
          have ac2 := a.cell 2 _ rfl
          have af2 := a.frozen 2
          have bc0 := b.cell 0 _ rfl
          have bf0 := b.frozen 0
          have bc1 := b.cell 1 _ rfl
          have bf1 := b.frozen 1
          have bc2 := b.cell 2 _ rfl
          have bf2 := b.frozen 2
          clear a b h2N h2M
          go_wp2_with fail
          refine (hD2 _).mono ?_
          rintro _ wx ⟨rfl, hbx⟩
          have hbN := HB.out.trans (hbx.mono HB.out.size)
          have h2N := (H2.out.1.below hbx H2.out.1.lt)
          have h2M := (H2.out.2.below hbx H2.out.2.lt)
          have HBN := Lib.hid hbN
          have H2N := Lib.hid (And.intro h2N h2M)
          clear hbx hbN HB H2 ac0 ac1 ac2 af0 af1 af2 bc0 bc1 bc2 bf0 bf1 bf2
          have HB := HBN
          have H2 := H2N
          clear HBN H2N
          have a := h2N
          have b := h2M
          have ac0 := a.cell 0 _ rfl
          have af0 := a.frozen 0
          have ac1 := a.cell 1 _ rfl
          have af1 := a.frozen 1
          have ac2 := a.cell 2 _ rfl
          have af2 := a.frozen 2
          have bc0 := b.cell 0 _ rfl
          have bf0 := b.frozen 0
          have bc1 := b.cell 1 _ rfl
          have bf1 := b.frozen 1
          have bc2 := b.cell 2 _ rfl
          have bf2 := b.frozen 2
          clear a b h2N h2M
          go_wp2_with fail
          refine (hR0 _).mono ?_
          rintro _ wx ⟨rfl, hbx⟩
          have hbN := HB.out.trans (hbx.mono HB.out.size)
          have h2N := (H2.out.1.below hbx H2.out.1.lt)
          have h2M := (H2.out.2.below hbx H2.out.2.lt)
          have HBN := Lib.hid hbN
          have H2N := Lib.hid (And.intro h2N h2M)
          clear hbx hbN HB H2 ac0 ac1 ac2 af0 af1 af2 bc0 bc1 bc2 bf0 bf1 bf2
          have HB := HBN
          have H2 := H2N
          clear HBN H2N
          have a := h2N
          have b := h2M
          have ac0 := a.cell 0 _ rfl
          have af0 := a.frozen 0
          have ac1 := a.cell 1 _ rfl
          have af1 := a.frozen 1
          have ac2 := a.cell 2 _ rfl
          have af2 := a.frozen 2
          have bc0 := b.cell 0 _ rfl
          have bf0 := b.frozen 0
          have bc1 := b.cell 1 _ rfl
          have bf1 := b.frozen 1
          have bc2 := b.cell 2 _ rfl
          have bf2 := b.frozen 2
          clear a b h2N h2M
          go_wp2
          go_ret
          exact ⟨rfl, HB.out⟩
        · skip
          rw [h] at hR0
          rw [h2] at hR1
          clear h h2
          go_enter Tryd.func6, Tryd.ntmps6
          go_wp2_with fail
          refine hWW.mono ?_
          clear hWW
          rintro _ wx ⟨rfl, hbx⟩
          have hbN := HB.out.trans (hbx.mono HB.out.size)
          have h2N := (H2.out.1.below hbx H2.out.1.lt)
          have h2M := (H2.out.2.below hbx H2.out.2.lt)
          have HBN := Lib.hid hbN
          have H2N := Lib.hid (And.intro h2N h2M)
          clear hbx hbN HB H2 ac0 ac1 ac2 af0 af1 af2 bc0 bc1 bc2 bf0 bf1 bf2
          have HB := HBN
          have H2 := H2N
          clear HBN H2N
          have a := h2N
          have b := h2M
          have ac0 := a.cell 0 _ rfl
          have af0 := a.frozen 0
          have ac1 := a.cell 1 _ rfl
          have af1 := a.frozen 1
          have ac2 := a.cell 2 _ rfl
          have af2 := a.frozen 2
          have bc0 := b.cell 0 _ rfl
          have bf0 := b.frozen 0
          have bc1 := b.cell 1 _ rfl
          have bf1 := b.frozen 1
          have bc2 := b.cell 2 _ rfl
          have bf2 := b.frozen 2
          clear a b h2N h2M
          go_wp2_with fail
          refine (hC _).mono ?_
          rintro _ wx ⟨rfl, hbx⟩
          have hbN := HB.out.trans (hbx.mono HB.out.size)
          have h2N := (H2.out.1.below hbx H2.out.1.lt)
          have h2M := (H2.out.2.below hbx H2.out.2.lt)
          have HBN := Lib.hid hbN
          have H2N := Lib.hid (And.intro h2N h2M)
          clear hbx hbN HB H2 ac0 ac1 ac2 af0 af1 af2 bc0 bc1 bc2 bf0 bf1 bf2
          have HB := HBN
          have H2 := H2N
          clear HBN H2N
          have a := h2N
          have b := h2M
          have ac0 := a.cell 0 _ rfl
          have af0 := a.frozen 0
          have ac1 := a.cell 1 _ rfl
          have af1 := a.frozen 1
          have ac2 := a.cell 2 _ rfl
          have af2 := a.frozen 2
          have bc0 := b.cell 0 _ rfl
          have bf0 := b.frozen 0
          have bc1 := b.cell 1 _ rfl
          have bf1 := b.frozen 1
          have bc2 := b.cell 2 _ rfl
          have bf2 := b.frozen 2
          clear a b h2N h2M
          go_wp2_with fail
          refine (hE _).mono ?_
          rintro _ wx ⟨rfl, hbx⟩
          have hbN := HB.out.trans (hbx.mono HB.out.size)
          have h2N := (H2.out.1.below hbx H2.out.1.lt)
          have h2M := (H2.out.2.below hbx H2.out.2.lt)
          have HBN := Lib.hid hbN
          have H2N := Lib.hid (And.intro h2N h2M)
          clear hbx hbN HB H2 ac0 ac1 ac2 af0 af1 af2 bc0 bc1 bc2 bf0 bf1 bf2
          have HB := HBN
          have H2 := H2N
          clear HBN H2N
          have a := h2N
          have b := h2M
          have ac0 := a.cell 0 _ rfl
          have af0 := a.frozen 0
          have ac1 := a.cell 1 _ rfl
          have af1 := a.frozen 1
          have ac2 := a.cell 2 _ rfl
          have af2 := a.frozen 2
          have bc0 := b.cell 0 _ rfl
          have bf0 := b.frozen 0
          have bc1 := b.cell 1 _ rfl
          have bf1 := b.frozen 1
          have bc2 := b.cell 2 _ rfl
          have bf2 := b.frozen 2
          clear a b h2N h2M
          go_wp2_with fail
          refine (hD2 _).mono ?_
          rintro _ wx ⟨rfl, hbx⟩
          have hbN := HB.out.trans (hbx.mono HB.out.size)
          have h2N := (H2.out.1.below hbx H2.out.1.lt)
          have h2M := (H2.out.2.below hbx H2.out.2.lt)
          have HBN := Lib.hid hbN
          have H2N := Lib.hid (And.intro h2N h2M)
          clear hbx hbN HB H2 ac0 ac1 ac2 af0 af1 af2 bc0 bc1 bc2 bf0 bf1 bf2
          have HB := HBN
          have H2 := H2N
          clear HBN H2N
          have a := h2N
          have b := h2M
          have ac0 := a.cell 0 _ rfl
          have af0 := a.frozen 0
          have ac1 := a.cell 1 _ rfl
          have af1 := a.frozen 1
          have ac2 := a.cell 2 _ rfl
          have af2 := a.frozen 2
          have bc0 := b.cell 0 _ rfl
          have bf0 := b.frozen 0
          have bc1 := b.cell 1 _ rfl
          have bf1 := b.frozen 1
          have bc2 := b.cell 2 _ rfl
          have bf2 := b.frozen 2
          clear a b h2N h2M
          go_wp2_with fail
          refine (hR0 _).mono ?_
          rintro _ wx ⟨rfl, hbx⟩
          have hbN := HB.out.trans (hbx.mono HB.out.size)
          have h2N := (H2.out.1.below hbx H2.out.1.lt)
          have h2M := (H2.out.2.below hbx H2.out.2.lt)
          have HBN := Lib.hid hbN
          have H2N := Lib.hid (And.intro h2N h2M)
          clear hbx hbN HB H2 ac0 ac1 ac2 af0 af1 af2 bc0 bc1 bc2 bf0 bf1 bf2
          have HB := HBN
          have H2 := H2N
          clear HBN H2N
          have a := h2N
          have b := h2M
          have ac0 := a.cell 0 _ rfl
          have af0 := a.frozen 0
          have ac1 := a.cell 1 _ rfl
          have af1 := a.frozen 1
          have ac2 := a.cell 2 _ rfl
          have af2 := a.frozen 2
          have bc0 := b.cell 0 _ rfl
          have bf0 := b.frozen 0
          have bc1 := b.cell 1 _ rfl
          have bf1 := b.frozen 1
          have bc2 := b.cell 2 _ rfl
          have bf2 := b.frozen 2
          clear a b h2N h2M
          go_wp2_with fail
          refine (hR1 _).mono ?_
          rintro _ wx ⟨rfl, hbx⟩
          have hbN := HB.out.trans (hbx.mono HB.out.size)
          have h2N := (H2.out.1.below hbx H2.out.1.lt)
          have h2M := (H2.out.2.below hbx H2.out.2.lt)
          have HBN := Lib.hid hbN
          have H2N := Lib.hid (And.intro h2N h2M)
          clear hbx hbN HB H2 ac0 ac1 ac2 af0 af1 af2 bc0 bc1 bc2 bf0 bf1 bf2
          have HB := HBN
          have H2 := H2N
          clear HBN H2N
          have a := h2N
          have b := h2M
          have ac0 := a.cell 0 _ rfl
          have af0 := a.frozen 0
          have ac1 := a.cell 1 _ rfl
          have af1 := a.frozen 1
          have ac2 := a.cell 2 _ rfl
          have af2 := a.frozen 2
          have bc0 := b.cell 0 _ rfl
          have bf0 := b.frozen 0
          have bc1 := b.cell 1 _ rfl
          have bf1 := b.frozen 1
          have bc2 := b.cell 2 _ rfl
          have bf2 := b.frozen 2
          clear a b h2N h2M
          go_wp2
          go_ret
          exact ⟨rfl, HB.out⟩
      · rcases hnr with h | ⟨h, h2⟩
        · skip
          rw [h] at hR0
          clear h hR1
          go_enter Tryd.func6, Tryd.ntmps6
          go_wp2_with fail
          refine hWW.mono ?_
          clear hWW
          rintro _ wx ⟨rfl, hbx⟩
          have hbN := HB.out.trans (hbx.mono HB.out.size)
          have h2N := (H2.out.1.below hbx H2.out.1.lt)
          have h2M := (H2.out.2.below hbx H2.out.2.lt)
          have HBN := Lib.hid hbN
          have H2N := Lib.hid (And.intro h2N h2M)
          clear hbx hbN HB H2 ac0 ac1 ac2 af0 af1 af2 bc0 bc1 bc2 bf0 bf1 bf2
          have HB := HBN
          have H2 := H2N
          clear HBN H2N
          have a := h2N
          have b := h2M
          have ac0 := a.cell 0 _ rfl
          have af0 := a.frozen 0
          have ac1 := a.cell 1 _ rfl
          have af1 := a.frozen 1
          have ac2 := a.cell 2 _ rfl
          have af2 := a.frozen 2
          have bc0 := b.cell 0 _ rfl
          have bf0 := b.frozen 0
          have bc1 := b.cell 1 _ rfl
          have bf1 := b.frozen 1
          have bc2 := b.cell 2 _ rfl
          have bf2 := b.frozen 2
          clear a b h2N h2M
          go_wp2_with fail
          refine (hC _).mono ?_
          rintro _ wx ⟨rfl, hbx⟩
          have hbN := HB.out.trans (hbx.mono HB.out.size)
          have h2N := (H2.out.1.below hbx H2.out.1.lt)
          have h2M := (H2.out.2.below hbx H2.out.2.lt)
          have HBN := Lib.hid hbN
          have H2N := Lib.hid (And.intro h2N h2M)
          clear hbx hbN HB H2 ac0 ac1 ac2 af0 af1 af2 bc0 bc1 bc2 bf0 bf1 bf2
          have HB := HBN
          have H2 := H2N
          clear HBN H2N
          have a := h2N
          have b := h2M
          have ac0 := a.cell 0 _ rfl
          have af0 := a.frozen 0
          have ac1 := a.cell 1 _ rfl
          have af1 := a.frozen 1
          have ac2 := a.cell 2 _ rfl
          have af2 := a.frozen 2
          have bc0 := b.cell 0 _ rfl
          have bf0 := b.frozen 0
          have bc1 := b.cell 1 _ rfl
          have bf1 := b.frozen 1
          have bc2 := b.cell 2 _ rfl
          have bf2 := b.frozen 2
          clear a b h2N h2M
          go_wp2_with fail
          refine (hE _).mono ?_
          rintro _ wx ⟨rfl, hbx⟩
          have hbN := HB.out.trans (hbx.mono HB.out.size)
          have h2N := (H2.out.1.below hbx H2.out.1.lt)
          have h2M := (H2.out.2.below hbx H2.out.2.lt)
          have HBN := Lib.hid hbN
          have H2N := Lib.hid (And.intro h2N h2M)
          clear hbx hbN HB H2 ac0 ac1 ac2 af0 af1 af2 bc0 bc1 bc2 bf0 bf1 bf2
          have HB := HBN
          have H2 := H2N
          clear HBN H2N
          have a := h2N
          have b := h2M
          have ac0 := a.cell 0 _ rfl
          have af0 := a.frozen 0
          have ac1 := a.cell 1 _ rfl
          have af1 := a.frozen 1
          have ac2 := a.cell 2 _ rfl
          have af2 := a.frozen 2
          have bc0 := b.cell 0 _ rfl
          have bf0 := b.frozen 0
          have bc1 := b.cell 1 _ rfl
          have bf1 := b.frozen 1
          have bc2 := b.cell 2 _ rfl
          have bf2 := b.frozen 2
          clear a b h2N h2M
          go_wp2_with fail
          refine (hD2 _).mono ?_
          rintro _ wx ⟨rfl, hbx⟩
          have hbN := HB.out.trans (hbx.mono HB.out.size)
          have h2N := (H2.out.1.below hbx H2.out.1.lt)
          have h2M := (H2.out.2.below hbx H2.out.2.lt)
          have HBN := Lib.hid hbN
          have H2N := Lib.hid (And.intro h2N h2M)
          clear hbx hbN HB H2 ac0 ac1 ac2 af0 af1 af2 bc0 bc1 bc2 bf0 bf1 bf2
          have HB := HBN
          have H2 := H2N
          clear HBN H2N
          have a := h2N
          have b := h2M
          have ac0 := a.cell 0 _ rfl
          have af0 := a.frozen 0
          have ac1 := a.cell 1 _ rfl
          have af1 := a.frozen 1
          have ac2 := a.cell 2 _ rfl
          have af2 := a.frozen 2
          have bc0 := b.cell 0 _ rfl
          have bf0 := b.frozen 0
          have bc1 := b.cell 1 _ rfl
          have bf1 := b.frozen 1
          have bc2 := b.cell 2 _ rfl
          have bf2 := b.frozen 2
          clear a b h2N h2M
          go_wp2_with fail
          refine (hR0 _).mono ?_
          rintro _ wx ⟨rfl, hbx⟩
          have hbN := HB.out.trans (hbx.mono HB.out.size)
          have h2N := (H2.out.1.below hbx H2.out.1.lt)
          have h2M := (H2.out.2.below hbx H2.out.2.lt)
          have HBN := Lib.hid hbN
          have H2N := Lib.hid (And.intro h2N h2M)
          clear hbx hbN HB H2 ac0 ac1 ac2 af0 af1 af2 bc0 bc1 bc2 bf0 bf1 bf2
          have HB := HBN
          have H2 := H2N
          clear HBN H2N
          have a := h2N
          have b := h2M
          have ac0 := a.cell 0 _ rfl
          have af0 := a.frozen 0
          have ac1 := a.cell 1 _ rfl
          have af1 := a.frozen 1
          have ac2 := a.cell 2 _ rfl
          have af2 := a.frozen 2
          have bc0 := b.cell 0 _ rfl
          have bf0 := b.frozen 0
          have bc1 := b.cell 1 _ rfl
          have bf1 := b.frozen 1
          have bc2 := b.cell 2 _ rfl
          have bf2 := b.frozen 2
          clear a b h2N h2M
          go_wp2
          go_ret
          exact ⟨rfl, HB.out⟩
        · skip
          rw [h] at hR0
          rw [h2] at hR1
          clear h h2
          go_enter Tryd.func6, Tryd.ntmps6
          go_wp2_with fail
          refine hWW.mono ?_
          clear hWW
          rintro _ wx ⟨rfl, hbx⟩
          have hbN := HB.out.trans (hbx.mono HB.out.size)
          have h2N := (H2.out.1.below hbx H2.out.1.lt)
          have h2M := (H2.out.2.below hbx H2.out.2.lt)
          have HBN := Lib.hid hbN
          have H2N := Lib.hid (And.intro h2N h2M)
          clear hbx hbN HB H2 ac0 ac1 ac2 af0 af1 af2 bc0 bc1 bc2 bf0 bf1 bf2
          have HB := HBN
          have H2 := H2N
          clear HBN H2N
          have a := h2N
          have b := h2M
          have ac0 := a.cell 0 _ rfl
          have af0 := a.frozen 0
          have ac1 := a.cell 1 _ rfl
          have af1 := a.frozen 1
          have ac2 := a.cell 2 _ rfl
          have af2 := a.frozen 2
          have bc0 := b.cell 0 _ rfl
          have bf0 := b.frozen 0
          have bc1 := b.cell 1 _ rfl
          have bf1 := b.frozen 1
          have bc2 := b.cell 2 _ rfl
          have bf2 := b.frozen 2
          clear a b h2N h2M
          go_wp2_with fail
          refine (hC _).mono ?_
          rintro _ wx ⟨rfl, hbx⟩
          have hbN := HB.out.trans (hbx.mono HB.out.size)
          have h2N := (H2.out.1.below hbx H2.out.1.lt)
          have h2M := (H2.out.2.below hbx H2.out.2.lt)
          have HBN := Lib.hid hbN
          have H2N := Lib.hid (And.intro h2N h2M)
          clear hbx hbN HB H2 ac0 ac1 ac2 af0 af1 af2 bc0 bc1 bc2 bf0 bf1 bf2
          have HB := HBN
          have H2 := H2N
          clear HBN H2N
          have a := h2N
          have b := h2M
          have ac0 := a.cell 0 _ rfl
          have af0 := a.frozen 0
          have ac1 := a.cell 1 _ rfl
          have af1 := a.frozen 1
          have ac2 := a.cell 2 _ rfl
          have af2 := a.frozen 2
          have bc0 := b.cell 0 _ rfl
          have bf0 := b.frozen 0
          have bc1 := b.cell 1 _ rfl
          have bf1 := b.frozen 1
          have bc2 := b.cell 2 _ rfl
          have bf2 := b.frozen 2
          clear a b h2N h2M
          go_wp2_with fail
          refine (hE _).mono ?_
          rintro _ wx ⟨rfl, hbx⟩
          have hbN := HB.out.trans (hbx.mono HB.out.size)
          have h2N := (H2.out.1.below hbx H2.out.1.lt)
          have h2M := (H2.out.2.below hbx H2.out.2.lt)
          have HBN := Lib.hid hbN
          have H2N := Lib.hid (And.intro h2N h2M)
          clear hbx hbN HB H2 ac0 ac1 ac2 af0 af1 af2 bc0 bc1 bc2 bf0 bf1 bf2
          have HB := HBN
          have H2 := H2N
          clear HBN H2N
          have a := h2N
          have b := h2M
          have ac0 := a.cell 0 _ rfl
          have af0 := a.frozen 0
          have ac1 := a.cell 1 _ rfl
          have af1 := a.frozen 1
          have ac2 := a.cell 2 _ rfl
          have af2 := a.frozen 2
          have bc0 := b.cell 0 _ rfl
          have bf0 := b.frozen 0
          have bc1 := b.cell 1 _ rfl
          have bf1 := b.frozen 1
          have bc2 := b.cell 2 _ rfl
          have bf2 := b.frozen 2
          clear a b h2N h2M
          go_wp2_with fail
          refine (hD2 _).mono ?_
          rintro _ wx ⟨rfl, hbx⟩
          have hbN := HB.out.trans (hbx.mono HB.out.size)
          have h2N := (H2.out.1.below hbx H2.out.1.lt)
          have h2M := (H2.out.2.below hbx H2.out.2.lt)
          have HBN := Lib.hid hbN
          have H2N := Lib.hid (And.intro h2N h2M)
          clear hbx hbN HB H2 ac0 ac1 ac2 af0 af1 af2 bc0 bc1 bc2 bf0 bf1 bf2
          have HB := HBN
          have H2 := H2N
          clear HBN H2N
          have a := h2N
          have b := h2M
          have ac0 := a.cell 0 _ rfl
          have af0 := a.frozen 0
          have ac1 := a.cell 1 _ rfl
          have af1 := a.frozen 1
          have ac2 := a.cell 2 _ rfl
          have af2 := a.frozen 2
          have bc0 := b.cell 0 _ rfl
          have bf0 := b.frozen 0
          have bc1 := b.cell 1 _ rfl
          have bf1 := b.frozen 1
          have bc2 := b.cell 2 _ rfl
          have bf2 := b.frozen 2
          clear a b h2N h2M
          go_wp2_with fail
          refine (hR0 _).mono ?_
          rintro _ wx ⟨rfl, hbx⟩
          have hbN := HB.out.trans (hbx.mono HB.out.size)
          have h2N := (H2.out.1.below hbx H2.out.1.lt)
          have h2M := (H2.out.2.below hbx H2.out.2.lt)
          have HBN := Lib.hid hbN
          have H2N := Lib.hid (And.intro h2N h2M)
          clear hbx hbN HB H2 ac0 ac1 ac2 af0 af1 af2 bc0 bc1 bc2 bf0 bf1 bf2
          have HB := HBN
          have H2 := H2N
          clear HBN H2N
          have a := h2N
          have b := h2M
          have ac0 := a.cell 0 _ rfl
          have af0 := a.frozen 0
          have ac1 := a.cell 1 _ rfl
          have af1 := a.frozen 1
          have ac2 := a.cell 2 _ rfl
          have af2 := a.frozen 2
          have bc0 := b.cell 0 _ rfl
          have bf0 := b.frozen 0
          have bc1 := b.cell 1 _ rfl
          have bf1 := b.frozen 1
          have bc2 := b.cell 2 _ rfl
          have bf2 := b.frozen 2
          clear a b h2N h2M
          go_wp2_with fail
          refine (hR1 _).mono ?_
          rintro _ wx ⟨rfl, hbx⟩
          have hbN := HB.out.trans (hbx.mono HB.out.size)
          have h2N := (H2.out.1.below hbx H2.out.1.lt)
          have h2M := (H2.out.2.below hbx H2.out.2.lt)
          have HBN := Lib.hid hbN
          have H2N := Lib.hid (And.intro h2N h2M)
          clear hbx hbN HB H2 ac0 ac1 ac2 af0 af1 af2 bc0 bc1 bc2 bf0 bf1 bf2
          have HB := HBN
          have H2 := H2N
          clear HBN H2N
          have a := h2N
          have b := h2M
          have ac0 := a.cell 0 _ rfl
          have af0 := a.frozen 0
          have ac1 := a.cell 1 _ rfl
          have af1 := a.frozen 1
          have ac2 := a.cell 2 _ rfl
          have af2 := a.frozen 2
          have bc0 := b.cell 0 _ rfl
          have bf0 := b.frozen 0
          have bc1 := b.cell 1 _ rfl
          have bf1 := b.frozen 1
          have bc2 := b.cell 2 _ rfl
          have bf2 := b.frozen 2
          clear a b h2N h2M
          go_wp2
          go_ret
          exact ⟨rfl, HB.out⟩
  · have hz2 : ((z : Int) == 0) = false := by rw [beq_eq_false_iff_ne]; exact hz
    clear HZ hR0 hR1
    go_enter Tryd.func6, Tryd.ntmps6
    go_wp2_with fail
    refine hWW.mono ?_
    clear hWW
    rintro _ wx ⟨rfl, hbx⟩
    have hbN := HB.out.trans (hbx.mono HB.out.size)
    have h2N := (H2.out.1.below hbx H2.out.1.lt)
    have h2M := (H2.out.2.below hbx H2.out.2.lt)
    have HBN := Lib.hid hbN
    have H2N := Lib.hid (And.intro h2N h2M)
    clear hbx hbN HB H2 ac0 ac1 ac2 af0 af1 af2 bc0 bc1 bc2 bf0 bf1 bf2
    have HB := HBN
    have H2 := H2N
    clear HBN H2N
    have a := h2N
    have b := h2M
    have ac0 := a.cell 0 _ rfl
    have af0 := a.frozen 0
    have ac1 := a.cell 1 _ rfl
    have af1 := a.frozen 1
    have ac2 := a.cell 2 _ rfl
    have af2 := a.frozen 2
    have bc0 := b.cell 0 _ rfl
    have bf0 := b.frozen 0
    have bc1 := b.cell 1 _ rfl
    have bf1 := b.frozen 1
    have bc2 := b.cell 2 _ rfl
    have bf2 := b.frozen 2
    clear a b h2N h2M
    go_wp2_with fail
    refine (hC _).mono ?_
    rintro _ wx ⟨rfl, hbx⟩
    have hbN := HB.out.trans (hbx.mono HB.out.size)
    have h2N := (H2.out.1.below hbx H2.out.1.lt)
    have h2M := (H2.out.2.below hbx H2.out.2.lt)
    have HBN := Lib.hid hbN
    have H2N := Lib.hid (And.intro h2N h2M)
    clear hbx hbN HB H2 ac0 ac1 ac2 af0 af1 af2 bc0 bc1 bc2 bf0 bf1 bf2
    have HB := HBN
    have H2 := H2N
    clear HBN H2N
    have a := h2N
    have b := h2M
    have ac0 := a.cell 0 _ rfl
    have af0 := a.frozen 0
    have ac1 := a.cell 1 _ rfl
    have af1 := a.frozen 1
    have ac2 := a.cell 2 _ rfl
    have af2 := a.frozen 2
    have bc0 := b.cell 0 _ rfl
    have bf0 := b.frozen 0
    have bc1 := b.cell 1 _ rfl
    have bf1 := b.frozen 1
    have bc2 := b.cell 2 _ rfl
    have bf2 := b.frozen 2
    clear a b h2N h2M
    go_wp2_with fail
    refine (hE _).mono ?_
    rintro _ wx ⟨rfl, hbx⟩
    have hbN := HB.out.trans (hbx.mono HB.out.size)
    have h2N := (H2.out.1.below hbx H2.out.1.lt)
    have h2M := (H2.out.2.below hbx H2.out.2.lt)
    have HBN := Lib.hid hbN
    have H2N := Lib.hid (And.intro h2N h2M)
    clear hbx hbN HB H2 ac0 ac1 ac2 af0 af1 af2 bc0 bc1 bc2 bf0 bf1 bf2
    have HB := HBN
    have H2 := H2N
    clear HBN H2N
    have a := h2N
    have b := h2M
    have ac0 := a.cell 0 _ rfl
    have af0 := a.frozen 0
    have ac1 := a.cell 1 _ rfl
    have af1 := a.frozen 1
    have ac2 := a.cell 2 _ rfl
    have af2 := a.frozen 2
    have bc0 := b.cell 0 _ rfl
    have bf0 := b.frozen 0
    have bc1 := b.cell 1 _ rfl
    have bf1 := b.frozen 1
    have bc2 := b.cell 2 _ rfl
    have bf2 := b.frozen 2
    clear a b h2N h2M
    go_wp2_with fail
    refine (hD _).mono ?_
    rintro _ wx ⟨rfl, hbx⟩
    have hbN := HB.out.trans (hbx.mono HB.out.size)
    have h2N := (H2.out.1.below hbx H2.out.1.lt)
    have h2M := (H2.out.2.below hbx H2.out.2.lt)
    have HBN := Lib.hid hbN
    have H2N := Lib.hid (And.intro h2N h2M)
    clear hbx hbN HB H2 ac0 ac1 ac2 af0 af1 af2 bc0 bc1 bc2 bf0 bf1 bf2
    have HB := HBN
    have H2 := H2N
    clear HBN H2N
    have a := h2N
    have b := h2M
    have ac0 := a.cell 0 _ rfl
    have af0 := a.frozen 0
    have ac1 := a.cell 1 _ rfl
    have af1 := a.frozen 1
    have ac2 := a.cell 2 _ rfl
    have af2 := a.frozen 2
    have bc0 := b.cell 0 _ rfl
    have bf0 := b.frozen 0
    have bc1 := b.cell 1 _ rfl
    have bf1 := b.frozen 1
    have bc2 := b.cell 2 _ rfl
    have bf2 := b.frozen 2
    clear a b h2N h2M
    go_wp2
    go_ret
    exact ⟨rfl, HB.out⟩
end Go.Proofs.YthiggalnjjcejaaDoor
