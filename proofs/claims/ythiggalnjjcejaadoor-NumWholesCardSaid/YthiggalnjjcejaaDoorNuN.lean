/- NumOrder (layer 6): the walk. -/
import Derived.Test.YthiggalnjjcejaaDoorNuD
import Derived.Test.YthiggalnjjcejaaDoorNuL
namespace Go.Proofs.YthiggalnjjcejaaDoor
set_option linter.unusedSimpArgs false
set_option linter.unusedVariables false
open Go.RowKit Go.Tab

theorem cmpO_trans {n1 : Bool} {d1 : ByteArray} {e1 : Int} {n2 : Bool} {d2 : ByteArray} {e2 : Int} {n3 : Bool} {d3 : ByteArray} {e3 : Int} (r1 : numR n1 d1 e1 = true) (r2 : numR n2 d2 e2 = true) (r3 : numR n3 d3 e3 = true)
    (h1 : cmpO n1 d1 e1 n2 d2 e2 ≤ 0) (h2 : cmpO n2 d2 e2 n3 d3 e3 ≤ 0) : cmpO n1 d1 e1 n3 d3 e3 ≤ 0 := by
  rw [cmpO, r1, r2] at h1
  rw [cmpO, r2, r3] at h2
  rw [cmpO, r1, r3]
  exact cmpN_trans h1 h2
/-- Three numbers lie in their boxes. -/
structure Three (w : World) (B : Nat) (n1 : Bool) (d1 : ByteArray) (e1 : Int) (n2 : Bool) (d2 : ByteArray) (e2 : Int) (n3 : Bool) (d3 : ByteArray) (e3 : Int) : Prop where
  a : Cells w B #[.bool n1, .string d1, .int .i64 e1] 24
  b : Cells w (B + 1) #[.bool n2, .string d2, .int .i64 e2] 24
  c : Cells w (B + 1 + 1) #[.bool n3, .string d3, .int .i64 e3] 24
theorem Three.below {w w' : World} {B : Nat} {n1 : Bool} {d1 : ByteArray} {e1 : Int} {n2 : Bool} {d2 : ByteArray} {e2 : Int} {n3 : Bool} {d3 : ByteArray} {e3 : Int} (h : Three w B n1 d1 e1 n2 d2 e2 n3 d3 e3) (hb : Below w.heap.size w w') : Three w' B n1 d1 e1 n2 d2 e2 n3 d3 e3 := ⟨h.a.below hb h.a.lt, h.b.below hb h.b.lt, h.c.below hb h.c.lt⟩

set_option maxHeartbeats 4000000 in
set_option maxRecDepth 100000 in
theorem NumOrder_walk (nb0 : Bool) (nd0 : ByteArray) (ne0 : Int) (nb1 : Bool) (nd1 : ByteArray) (ne1 : Int) (nb2 : Bool) (nd2 : ByteArray) (ne2 : Int) (w : World)
    (w0 : nd0.size ≤ maxLen ∧ (Lit.int .i64 ne0).wf = true) (w1 : nd1.size ≤ maxLen ∧ (Lit.int .i64 ne1).wf = true) (w2 : nd2.size ≤ maxLen ∧ (Lit.int .i64 ne2).wf = true) (hT : NumTab w) :
    Calls Tryd.prog 7 #[.agg #[.bool nb0, .string nd0, .int .i64 ne0], .agg #[.bool nb1, .string nd1, .int .i64 ne1], .agg #[.bool nb2, .string nd2, .int .i64 ne2]] w fun e w' => e = .returned (.bool true) ∧ Below w.heap.size w w' := by
  replace w0 := w0.1
  replace w1 := w1.1
  replace w2 := w2.1
  unfold maxLen at w0 w1 w2
  have hW := fun W h => wakes_any W h
  have hb0 : Below w.heap.size w (((w.alloc (.cells #[.bool nb0, .string nd0, .int .i64 ne0] 24)).alloc (.cells #[.bool nb1, .string nd1, .int .i64 ne1] 24)).alloc (.cells #[.bool nb2, .string nd2, .int .i64 ne2] 24)) := (((Below.refl _ w).alloc (Nat.le_refl _) _).alloc (by simp) _).alloc (by simp; omega) _
  have h3 : Three (((w.alloc (.cells #[.bool nb0, .string nd0, .int .i64 ne0] 24)).alloc (.cells #[.bool nb1, .string nd1, .int .i64 ne1] 24)).alloc (.cells #[.bool nb2, .string nd2, .int .i64 ne2] 24)) w.heap.size nb0 nd0 ne0 nb1 nd1 ne1 nb2 nd2 ne2 := by
    refine ⟨((Cells.new w _ _).alloc _).alloc _, ?_, ?_⟩
    · have := (Cells.new (w.alloc (.cells #[.bool nb0, .string nd0, .int .i64 ne0] 24)) #[.bool nb1, .string nd1, .int .i64 ne1] 24).alloc (.cells #[.bool nb2, .string nd2, .int .i64 ne2] 24)
      rw [World.size_alloc] at this
      exact this
    · have := Cells.new ((w.alloc (.cells #[.bool nb0, .string nd0, .int .i64 ne0] 24)).alloc (.cells #[.bool nb1, .string nd1, .int .i64 ne1] 24)) #[.bool nb2, .string nd2, .int .i64 ne2] 24
      rw [World.size_alloc, World.size_alloc] at this
      exact this
  have hWW := hW _ (hT.below hb0)
  have HB := Lib.hid hb0
  have H3 := Lib.hid h3
  have a := h3.a
  have b := h3.b
  have c := h3.c
  have ac0 := a.cell 0 _ rfl
  have af0 := a.frozen 0
  have ac1 := a.cell 1 _ rfl
  have af1 := a.frozen 1
  have ac2 := a.cell 2 _ rfl
  have af2 := a.frozen 2
  have bc0 := b.cell 0 _ rfl
  have bf0 := b.frozen 0
  have bc1 := b.cell 1 _ rfl
  have bf1 := b.frozen 1
  have bc2 := b.cell 2 _ rfl
  have bf2 := b.frozen 2
  have cc0 := c.cell 0 _ rfl
  have cf0 := c.frozen 0
  have cc1 := c.cell 1 _ rfl
  have cf1 := c.frozen 1
  have cc2 := c.cell 2 _ rfl
  have cf2 := c.frozen 2
  clear a b c h3 hb0 hW
  have HT := Lib.hid hT
  clear hT
  by_cases g0 : 1200 < nd0.size
  · go_enter Tryd.func7, Tryd.ntmps7
    go_wp2_with fail
    refine hWW.mono ?_
    rintro _ wx ⟨rfl, hbx⟩
    have hbN := HB.out.trans (hbx.mono HB.out.size)
    have h3N := H3.out.below hbx
    have HBN := Lib.hid hbN
    have H3N := Lib.hid h3N
    clear hbx hbN HB H3 ac0 ac1 ac2 af0 af1 af2 bc0 bc1 bc2 bf0 bf1 bf2 cc0 cc1 cc2 cf0 cf1 cf2
    have HB := HBN
    have H3 := H3N
    clear HBN H3N
    have a := h3N.a
    have b := h3N.b
    have c := h3N.c
    have ac0 := a.cell 0 _ rfl
    have af0 := a.frozen 0
    have ac1 := a.cell 1 _ rfl
    have af1 := a.frozen 1
    have ac2 := a.cell 2 _ rfl
    have af2 := a.frozen 2
    have bc0 := b.cell 0 _ rfl
    have bf0 := b.frozen 0
    have bc1 := b.cell 1 _ rfl
    have bf1 := b.frozen 1
    have bc2 := b.cell 2 _ rfl
    have bf2 := b.frozen 2
    have cc0 := c.cell 0 _ rfl
    have cf0 := c.frozen 0
    have cc1 := c.cell 1 _ rfl
    have cf1 := c.frozen 1
    have cc2 := c.cell 2 _ rfl
    have cf2 := c.frozen 2
    clear a b c h3N
    go_wp2
    go_ret
    exact ⟨rfl, HB.out⟩
  by_cases g1 : 1200 < nd1.size
  · go_enter Tryd.func7, Tryd.ntmps7
    go_wp2_with fail
    refine hWW.mono ?_
    rintro _ wx ⟨rfl, hbx⟩
    have hbN := HB.out.trans (hbx.mono HB.out.size)
    have h3N := H3.out.below hbx
    have HBN := Lib.hid hbN
    have H3N := Lib.hid h3N
    clear hbx hbN HB H3 ac0 ac1 ac2 af0 af1 af2 bc0 bc1 bc2 bf0 bf1 bf2 cc0 cc1 cc2 cf0 cf1 cf2
    have HB := HBN
    have H3 := H3N
    clear HBN H3N
    have a := h3N.a
    have b := h3N.b
    have c := h3N.c
    have ac0 := a.cell 0 _ rfl
    have af0 := a.frozen 0
    have ac1 := a.cell 1 _ rfl
    have af1 := a.frozen 1
    have ac2 := a.cell 2 _ rfl
    have af2 := a.frozen 2
    have bc0 := b.cell 0 _ rfl
    have bf0 := b.frozen 0
    have bc1 := b.cell 1 _ rfl
    have bf1 := b.frozen 1
    have bc2 := b.cell 2 _ rfl
    have bf2 := b.frozen 2
    have cc0 := c.cell 0 _ rfl
    have cf0 := c.frozen 0
    have cc1 := c.cell 1 _ rfl
    have cf1 := c.frozen 1
    have cc2 := c.cell 2 _ rfl
    have cf2 := c.frozen 2
    clear a b c h3N
    go_wp2
    go_ret
    exact ⟨rfl, HB.out⟩
  by_cases g2 : 1200 < nd2.size
  · go_enter Tryd.func7, Tryd.ntmps7
    go_wp2_with fail
    refine hWW.mono ?_
    rintro _ wx ⟨rfl, hbx⟩
    have hbN := HB.out.trans (hbx.mono HB.out.size)
    have h3N := H3.out.below hbx
    have HBN := Lib.hid hbN
    have H3N := Lib.hid h3N
    clear hbx hbN HB H3 ac0 ac1 ac2 af0 af1 af2 bc0 bc1 bc2 bf0 bf1 bf2 cc0 cc1 cc2 cf0 cf1 cf2
    have HB := HBN
    have H3 := H3N
    clear HBN H3N
    have a := h3N.a
    have b := h3N.b
    have c := h3N.c
    have ac0 := a.cell 0 _ rfl
    have af0 := a.frozen 0
    have ac1 := a.cell 1 _ rfl
    have af1 := a.frozen 1
    have ac2 := a.cell 2 _ rfl
    have af2 := a.frozen 2
    have bc0 := b.cell 0 _ rfl
    have bf0 := b.frozen 0
    have bc1 := b.cell 1 _ rfl
    have bf1 := b.frozen 1
    have bc2 := b.cell 2 _ rfl
    have bf2 := b.frozen 2
    have cc0 := c.cell 0 _ rfl
    have cf0 := c.frozen 0
    have cc1 := c.cell 1 _ rfl
    have cf1 := c.frozen 1
    have cc2 := c.cell 2 _ rfl
    have cf2 := c.frozen 2
    clear a b c h3N
    go_wp2
    go_ret
    exact ⟨rfl, HB.out⟩
  have hR0 := fun W => rNumRight_any nb0 nd0 ne0 W (by omega)
  have hR1 := fun W => rNumRight_any nb1 nd1 ne1 W (by omega)
  have hR2 := fun W => rNumRight_any nb2 nd2 ne2 W (by omega)
  have hC01 := fun W => Compare_any nb0 nd0 ne0 nb1 nd1 ne1 W (by omega) (by omega)
  have hC12 := fun W => Compare_any nb1 nd1 ne1 nb2 nd2 ne2 W (by omega) (by omega)
  have hC02 := fun W => Compare_any nb0 nd0 ne0 nb2 nd2 ne2 W (by omega) (by omega)
  go_enter Tryd.func7, Tryd.ntmps7
  go_wp2_with fail
  refine hWW.mono ?_
  clear hWW
  rintro _ wx ⟨rfl, hbx⟩
  have hbN := HB.out.trans (hbx.mono HB.out.size)
  have h3N := H3.out.below hbx
  have HBN := Lib.hid hbN
  have H3N := Lib.hid h3N
  clear hbx hbN HB H3 ac0 ac1 ac2 af0 af1 af2 bc0 bc1 bc2 bf0 bf1 bf2 cc0 cc1 cc2 cf0 cf1 cf2
  have HB := HBN
  have H3 := H3N
  clear HBN H3N
  have a := h3N.a
  have b := h3N.b
  have c := h3N.c
  have ac0 := a.cell 0 _ rfl
  have af0 := a.frozen 0
  have ac1 := a.cell 1 _ rfl
  have af1 := a.frozen 1
  have ac2 := a.cell 2 _ rfl
  have af2 := a.frozen 2
  have bc0 := b.cell 0 _ rfl
  have bf0 := b.frozen 0
  have bc1 := b.cell 1 _ rfl
  have bf1 := b.frozen 1
  have bc2 := b.cell 2 _ rfl
  have bf2 := b.frozen 2
  have cc0 := c.cell 0 _ rfl
  have cf0 := c.frozen 0
  have cc1 := c.cell 1 _ rfl
  have cf1 := c.frozen 1
  have cc2 := c.cell 2 _ rfl
  have cf2 := c.frozen 2
  clear a b c h3N
  cases r0 : numR nb0 nd0 ne0 with
  | false =>
    rw [r0] at hR0
    clear r0
    go_wp2_with fail
    refine (hR0 _).mono ?_
    rintro _ wx ⟨rfl, hbx⟩
    have hbN := HB.out.trans (hbx.mono HB.out.size)
    have h3N := H3.out.below hbx
    have HBN := Lib.hid hbN
    have H3N := Lib.hid h3N
    clear hbx hbN HB H3 ac0 ac1 ac2 af0 af1 af2 bc0 bc1 bc2 bf0 bf1 bf2 cc0 cc1 cc2 cf0 cf1 cf2
    have HB := HBN
    have H3 := H3N
    clear HBN H3N
    have a := h3N.a
    have b := h3N.b
    have c := h3N.c
    have ac0 := a.cell 0 _ rfl
    have af0 := a.frozen 0
    have ac1 := a.cell 1 _ rfl
    have af1 := a.frozen 1
    have ac2 := a.cell 2 _ rfl
    have af2 := a.frozen 2
    have bc0 := b.cell 0 _ rfl
    have bf0 := b.frozen 0
    have bc1 := b.cell 1 _ rfl
    have bf1 := b.frozen 1
    have bc2 := b.cell 2 _ rfl
    have bf2 := b.frozen 2
    have cc0 := c.cell 0 _ rfl
    have cf0 := c.frozen 0
    have cc1 := c.cell 1 _ rfl
    have cf1 := c.frozen 1
    have cc2 := c.cell 2 _ rfl
    have cf2 := c.frozen 2
    clear a b c h3N
    go_wp2
    go_ret
    exact ⟨rfl, HB.out⟩
  | true =>
    rw [r0] at hR0
    go_wp2_with fail
    refine (hR0 _).mono ?_
    rintro _ wx ⟨rfl, hbx⟩
    have hbN := HB.out.trans (hbx.mono HB.out.size)
    have h3N := H3.out.below hbx
    have HBN := Lib.hid hbN
    have H3N := Lib.hid h3N
    clear hbx hbN HB H3 ac0 ac1 ac2 af0 af1 af2 bc0 bc1 bc2 bf0 bf1 bf2 cc0 cc1 cc2 cf0 cf1 cf2
    have HB := HBN
    have H3 := H3N
    clear HBN H3N
    have a := h3N.a
    have b := h3N.b
    have c := h3N.c
    have ac0 := a.cell 0 _ rfl
    have af0 := a.frozen 0
    have ac1 := a.cell 1 _ rfl
    have af1 := a.frozen 1
    have ac2 := a.cell 2 _ rfl
    have af2 := a.frozen 2
    have bc0 := b.cell 0 _ rfl
    have bf0 := b.frozen 0
    have bc1 := b.cell 1 _ rfl
    have bf1 := b.frozen 1
    have bc2 := b.cell 2 _ rfl
    have bf2 := b.frozen 2
    have cc0 := c.cell 0 _ rfl
    have cf0 := c.frozen 0
    have cc1 := c.cell 1 _ rfl
    have cf1 := c.frozen 1
    have cc2 := c.cell 2 _ rfl
    have cf2 := c.frozen 2
    clear a b c h3N
    cases r1 : numR nb1 nd1 ne1 with
    | false =>
      rw [r1] at hR1
      clear r1 r0
      go_wp2_with fail
      refine (hR1 _).mono ?_
      rintro _ wx ⟨rfl, hbx⟩
      have hbN := HB.out.trans (hbx.mono HB.out.size)
      have h3N := H3.out.below hbx
      have HBN := Lib.hid hbN
      have H3N := Lib.hid h3N
      clear hbx hbN HB H3 ac0 ac1 ac2 af0 af1 af2 bc0 bc1 bc2 bf0 bf1 bf2 cc0 cc1 cc2 cf0 cf1 cf2
      have HB := HBN
      have H3 := H3N
      clear HBN H3N
      have a := h3N.a
      have b := h3N.b
      have c := h3N.c
      have ac0 := a.cell 0 _ rfl
      have af0 := a.frozen 0
      have ac1 := a.cell 1 _ rfl
      have af1 := a.frozen 1
      have ac2 := a.cell 2 _ rfl
      have af2 := a.frozen 2
      have bc0 := b.cell 0 _ rfl
      have bf0 := b.frozen 0
      have bc1 := b.cell 1 _ rfl
      have bf1 := b.frozen 1
      have bc2 := b.cell 2 _ rfl
      have bf2 := b.frozen 2
      have cc0 := c.cell 0 _ rfl
      have cf0 := c.frozen 0
      have cc1 := c.cell 1 _ rfl
      have cf1 := c.frozen 1
      have cc2 := c.cell 2 _ rfl
      have cf2 := c.frozen 2
      clear a b c h3N
      go_wp2
      go_ret
      exact ⟨rfl, HB.out⟩
    | true =>
      rw [r1] at hR1
      go_wp2_with fail
      refine (hR1 _).mono ?_
      rintro _ wx ⟨rfl, hbx⟩
      have hbN := HB.out.trans (hbx.mono HB.out.size)
      have h3N := H3.out.below hbx
      have HBN := Lib.hid hbN
      have H3N := Lib.hid h3N
      clear hbx hbN HB H3 ac0 ac1 ac2 af0 af1 af2 bc0 bc1 bc2 bf0 bf1 bf2 cc0 cc1 cc2 cf0 cf1 cf2
      have HB := HBN
      have H3 := H3N
      clear HBN H3N
      have a := h3N.a
      have b := h3N.b
      have c := h3N.c
      have ac0 := a.cell 0 _ rfl
      have af0 := a.frozen 0
      have ac1 := a.cell 1 _ rfl
      have af1 := a.frozen 1
      have ac2 := a.cell 2 _ rfl
      have af2 := a.frozen 2
      have bc0 := b.cell 0 _ rfl
      have bf0 := b.frozen 0
      have bc1 := b.cell 1 _ rfl
      have bf1 := b.frozen 1
      have bc2 := b.cell 2 _ rfl
      have bf2 := b.frozen 2
      have cc0 := c.cell 0 _ rfl
      have cf0 := c.frozen 0
      have cc1 := c.cell 1 _ rfl
      have cf1 := c.frozen 1
      have cc2 := c.cell 2 _ rfl
      have cf2 := c.frozen 2
      clear a b c h3N
      cases r2 : numR nb2 nd2 ne2 with
      | false =>
        rw [r2] at hR2
        clear r2 r1 r0
        go_wp2_with fail
        refine (hR2 _).mono ?_
        rintro _ wx ⟨rfl, hbx⟩
        have hbN := HB.out.trans (hbx.mono HB.out.size)
        have h3N := H3.out.below hbx
        have HBN := Lib.hid hbN
        have H3N := Lib.hid h3N
        clear hbx hbN HB H3 ac0 ac1 ac2 af0 af1 af2 bc0 bc1 bc2 bf0 bf1 bf2 cc0 cc1 cc2 cf0 cf1 cf2
        have HB := HBN
        have H3 := H3N
        clear HBN H3N
        have a := h3N.a
        have b := h3N.b
        have c := h3N.c
        have ac0 := a.cell 0 _ rfl
        have af0 := a.frozen 0
        have ac1 := a.cell 1 _ rfl
        have af1 := a.frozen 1
        have ac2 := a.cell 2 _ rfl
        have af2 := a.frozen 2
        have bc0 := b.cell 0 _ rfl
        have bf0 := b.frozen 0
        have bc1 := b.cell 1 _ rfl
        have bf1 := b.frozen 1
        have bc2 := b.cell 2 _ rfl
        have bf2 := b.frozen 2
        have cc0 := c.cell 0 _ rfl
        have cf0 := c.frozen 0
        have cc1 := c.cell 1 _ rfl
        have cf1 := c.frozen 1
        have cc2 := c.cell 2 _ rfl
        have cf2 := c.frozen 2
        clear a b c h3N
        go_wp2
        go_ret
        exact ⟨rfl, HB.out⟩
      | true =>
        rw [r2] at hR2
        go_wp2_with fail
        refine (hR2 _).mono ?_
        rintro _ wx ⟨rfl, hbx⟩
        have hbN := HB.out.trans (hbx.mono HB.out.size)
        have h3N := H3.out.below hbx
        have HBN := Lib.hid hbN
        have H3N := Lib.hid h3N
        clear hbx hbN HB H3 ac0 ac1 ac2 af0 af1 af2 bc0 bc1 bc2 bf0 bf1 bf2 cc0 cc1 cc2 cf0 cf1 cf2
        have HB := HBN
        have H3 := H3N
        clear HBN H3N
        have a := h3N.a
        have b := h3N.b
        have c := h3N.c
        have ac0 := a.cell 0 _ rfl
        have af0 := a.frozen 0
        have ac1 := a.cell 1 _ rfl
        have af1 := a.frozen 1
        have ac2 := a.cell 2 _ rfl
        have af2 := a.frozen 2
        have bc0 := b.cell 0 _ rfl
        have bf0 := b.frozen 0
        have bc1 := b.cell 1 _ rfl
        have bf1 := b.frozen 1
        have bc2 := b.cell 2 _ rfl
        have bf2 := b.frozen 2
        have cc0 := c.cell 0 _ rfl
        have cf0 := c.frozen 0
        have cc1 := c.cell 1 _ rfl
        have cf1 := c.frozen 1
        have cc2 := c.cell 2 _ rfl
        have cf2 := c.frozen 2
        clear a b c h3N
        have hTR := Lib.hid (cmpO_trans (n1 := nb0) (d1 := nd0) (e1 := ne0) (n2 := nb1) (d2 := nd1) (e2 := ne1) (n3 := nb2) (d3 := nd2) (e3 := ne2) r0 r1 r2)
        clear r0 r1 r2 hR0 hR1 hR2
        generalize cmpO nb0 nd0 ne0 nb1 nd1 ne1 = z01 at hC01 hTR
        generalize cmpO nb1 nd1 ne1 nb2 nd2 ne2 = z12 at hC12 hTR
        generalize cmpO nb0 nd0 ne0 nb2 nd2 ne2 = z02 at hC02 hTR
        by_cases p1 : 0 < z01
        · skip
          go_wp2_with fail
          refine (hC01 _).mono ?_
          rintro _ wx ⟨rfl, hbx⟩
          have hbN := HB.out.trans (hbx.mono HB.out.size)
          have h3N := H3.out.below hbx
          have HBN := Lib.hid hbN
          have H3N := Lib.hid h3N
          clear hbx hbN HB H3 ac0 ac1 ac2 af0 af1 af2 bc0 bc1 bc2 bf0 bf1 bf2 cc0 cc1 cc2 cf0 cf1 cf2
          have HB := HBN
          have H3 := H3N
          clear HBN H3N
          have a := h3N.a
          have b := h3N.b
          have c := h3N.c
          have ac0 := a.cell 0 _ rfl
          have af0 := a.frozen 0
          have ac1 := a.cell 1 _ rfl
          have af1 := a.frozen 1
          have ac2 := a.cell 2 _ rfl
          have af2 := a.frozen 2
          have bc0 := b.cell 0 _ rfl
          have bf0 := b.frozen 0
          have bc1 := b.cell 1 _ rfl
          have bf1 := b.frozen 1
          have bc2 := b.cell 2 _ rfl
          have bf2 := b.frozen 2
          have cc0 := c.cell 0 _ rfl
          have cf0 := c.frozen 0
          have cc1 := c.cell 1 _ rfl
          have cf1 := c.frozen 1
          have cc2 := c.cell 2 _ rfl
          have cf2 := c.frozen 2
          clear a b c h3N
          go_wp2
          go_ret
          exact ⟨rfl, HB.out⟩
        by_cases p2 : 0 < z12
        · skip
          go_wp2_with fail
          refine (hC01 _).mono ?_
          rintro _ wx ⟨rfl, hbx⟩
          have hbN := HB.out.trans (hbx.mono HB.out.size)
          have h3N := H3.out.below hbx
          have HBN := Lib.hid hbN
          have H3N := Lib.hid h3N
          clear hbx hbN HB H3 ac0 ac1 ac2 af0 af1 af2 bc0 bc1 bc2 bf0 bf1 bf2 cc0 cc1 cc2 cf0 cf1 cf2
          have HB := HBN
          have H3 := H3N
          clear HBN H3N
          have a := h3N.a
          have b := h3N.b
          have c := h3N.c
          have ac0 := a.cell 0 _ rfl
          have af0 := a.frozen 0
          have ac1 := a.cell 1 _ rfl
          have af1 := a.frozen 1
          have ac2 := a.cell 2 _ rfl
          have af2 := a.frozen 2
          have bc0 := b.cell 0 _ rfl
          have bf0 := b.frozen 0
          have bc1 := b.cell 1 _ rfl
          have bf1 := b.frozen 1
          have bc2 := b.cell 2 _ rfl
          have bf2 := b.frozen 2
          have cc0 := c.cell 0 _ rfl
          have cf0 := c.frozen 0
          have cc1 := c.cell 1 _ rfl
          have cf1 := c.frozen 1
          have cc2 := c.cell 2 _ rfl
          have cf2 := c.frozen 2
          clear a b c h3N
          go_wp2_with fail
          refine (hC12 _).mono ?_
          rintro _ wx ⟨rfl, hbx⟩
          have hbN := HB.out.trans (hbx.mono HB.out.size)
          have h3N := H3.out.below hbx
          have HBN := Lib.hid hbN
          have H3N := Lib.hid h3N
          clear hbx hbN HB H3 ac0 ac1 ac2 af0 af1 af2 bc0 bc1 bc2 bf0 bf1 bf2 cc0 cc1 cc2 cf0 cf1 cf2
          have HB := HBN
          have H3 := H3N
          clear HBN H3N
          have a := h3N.a
          have b := h3N.b
          have c := h3N.c
          have ac0 := a.cell 0 _ rfl
          have af0 := a.frozen 0
          have ac1 := a.cell 1 _ rfl
          have af1 := a.frozen 1
          have ac2 := a.cell 2 _ rfl
          have af2 := a.frozen 2
          have bc0 := b.cell 0 _ rfl
          have bf0 := b.frozen 0
          have bc1 := b.cell 1 _ rfl
          have bf1 := b.frozen 1
          have bc2 := b.cell 2 _ rfl
          have bf2 := b.frozen 2
          have cc0 := c.cell 0 _ rfl
          have cf0 := c.frozen 0
          have cc1 := c.cell 1 _ rfl
          have cf1 := c.frozen 1
          have cc2 := c.cell 2 _ rfl
          have cf2 := c.frozen 2
          clear a b c h3N
          go_wp2
          go_ret
          exact ⟨rfl, HB.out⟩
        have p3 : z02 ≤ 0 := hTR.out (by omega) (by omega)
        go_wp2_with fail
        refine (hC01 _).mono ?_
        rintro _ wx ⟨rfl, hbx⟩
        have hbN := HB.out.trans (hbx.mono HB.out.size)
        have h3N := H3.out.below hbx
        have HBN := Lib.hid hbN
        have H3N := Lib.hid h3N
        clear hbx hbN HB H3 ac0 ac1 ac2 af0 af1 af2 bc0 bc1 bc2 bf0 bf1 bf2 cc0 cc1 cc2 cf0 cf1 cf2
        have HB := HBN
        have H3 := H3N
        clear HBN H3N
        have a := h3N.a
        have b := h3N.b
        have c := h3N.c
        have ac0 := a.cell 0 _ rfl
        have af0 := a.frozen 0
        have ac1 := a.cell 1 _ rfl
        have af1 := a.frozen 1
        have ac2 := a.cell 2 _ rfl
        have af2 := a.frozen 2
        have bc0 := b.cell 0 _ rfl
        have bf0 := b.frozen 0
        have bc1 := b.cell 1 _ rfl
        have bf1 := b.frozen 1
        have bc2 := b.cell 2 _ rfl
        have bf2 := b.frozen 2
        have cc0 := c.cell 0 _ rfl
        have cf0 := c.frozen 0
        have cc1 := c.cell 1 _ rfl
        have cf1 := c.frozen 1
        have cc2 := c.cell 2 _ rfl
        have cf2 := c.frozen 2
        clear a b c h3N
        go_wp2_with fail
        refine (hC12 _).mono ?_
        rintro _ wx ⟨rfl, hbx⟩
        have hbN := HB.out.trans (hbx.mono HB.out.size)
        have h3N := H3.out.below hbx
        have HBN := Lib.hid hbN
        have H3N := Lib.hid h3N
        clear hbx hbN HB H3 ac0 ac1 ac2 af0 af1 af2 bc0 bc1 bc2 bf0 bf1 bf2 cc0 cc1 cc2 cf0 cf1 cf2
        have HB := HBN
        have H3 := H3N
        clear HBN H3N
        have a := h3N.a
        have b := h3N.b
        have c := h3N.c
        have ac0 := a.cell 0 _ rfl
        have af0 := a.frozen 0
        have ac1 := a.cell 1 _ rfl
        have af1 := a.frozen 1
        have ac2 := a.cell 2 _ rfl
        have af2 := a.frozen 2
        have bc0 := b.cell 0 _ rfl
        have bf0 := b.frozen 0
        have bc1 := b.cell 1 _ rfl
        have bf1 := b.frozen 1
        have bc2 := b.cell 2 _ rfl
        have bf2 := b.frozen 2
        have cc0 := c.cell 0 _ rfl
        have cf0 := c.frozen 0
        have cc1 := c.cell 1 _ rfl
        have cf1 := c.frozen 1
        have cc2 := c.cell 2 _ rfl
        have cf2 := c.frozen 2
        clear a b c h3N
        go_wp2_with fail
        refine (hC02 _).mono ?_
        rintro _ wx ⟨rfl, hbx⟩
        have hbN := HB.out.trans (hbx.mono HB.out.size)
        have h3N := H3.out.below hbx
        have HBN := Lib.hid hbN
        have H3N := Lib.hid h3N
        clear hbx hbN HB H3 ac0 ac1 ac2 af0 af1 af2 bc0 bc1 bc2 bf0 bf1 bf2 cc0 cc1 cc2 cf0 cf1 cf2
        have HB := HBN
        have H3 := H3N
        clear HBN H3N
        have a := h3N.a
        have b := h3N.b
        have c := h3N.c
        have ac0 := a.cell 0 _ rfl
        have af0 := a.frozen 0
        have ac1 := a.cell 1 _ rfl
        have af1 := a.frozen 1
        have ac2 := a.cell 2 _ rfl
        have af2 := a.frozen 2
        have bc0 := b.cell 0 _ rfl
        have bf0 := b.frozen 0
        have bc1 := b.cell 1 _ rfl
        have bf1 := b.frozen 1
        have bc2 := b.cell 2 _ rfl
        have bf2 := b.frozen 2
        have cc0 := c.cell 0 _ rfl
        have cf0 := c.frozen 0
        have cc1 := c.cell 1 _ rfl
        have cf1 := c.frozen 1
        have cc2 := c.cell 2 _ rfl
        have cf2 := c.frozen 2
        clear a b c h3N
        go_wp2
        go_ret
        exact ⟨rfl, HB.out⟩
end Go.Proofs.YthiggalnjjcejaaDoor
