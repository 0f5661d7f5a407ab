/- The walk of TreeSorts (layer 8). -/
import Derived.Test.YtpcfhiipkbpmkaaDoorTsU
import Derived.Test.YtpcfhiipkbpmkaaDoorTreP
import Derived.Test.YtpcfhiipkbpmkaaDoorTreH
namespace Go.Proofs.YtpcfhiipkbpmkaaDoor
open Go.RowKit Go.Tab

theorem sort_form {kind : Int} {is neg : Bool} {d : ByteArray} {e : Int} {s : ByteArray} {ks : List ByteArray} {kids : List Tree} (hp : plainT (.mk kind is neg d e s ks kids)) :
    ∃ ks' kids', sortT (.mk kind is neg d e s ks kids) = .mk kind is neg d e s ks' kids' ∧ ks'.length = ks.length ∧ kids'.length = kids.length := by
  by_cases h6 : kind = 6
  · have hl := hp.2.2.2.2.2.2.1 h6
    refine ⟨_, _, by rw [sortT, if_pos h6], ?_, ?_⟩
    · rw [List.length_map, (sortF_perm _).length_eq, List.length_zip, sortAllT_len]; omega
    · rw [List.length_map, (sortF_perm _).length_eq, List.length_zip, sortAllT_len]; omega
  · refine ⟨_, _, by rw [sortT, if_neg h6], ?_, sortAllT_len _⟩
    rcases hp.2.2.2.2.1 with h | h
    · exact absurd h h6
    · rw [h]; rfl

set_option linter.unusedSimpArgs false in
set_option maxHeartbeats 8000000 in
set_option maxRecDepth 100000 in
theorem TreeSorts_walk (c0 : List Value) (t0 : Tree) (w : World) (w0 : ValAt w t0 c0) (hT : Tab w) (hf : Fits t0) :
    Calls Tryd.prog 7 #[valV c0] w fun e w' => e = .returned (.bool true) ∧ Below w.heap.size w w' := by
  have HV0 := Lib.hid w0
  obtain ⟨kind, is, neg, digits, exp, str, keys, kids, HTE⟩ : ∃ kind is neg digits exp str keys kids, Hid (t0 = Tree.mk kind is neg digits exp str keys kids) := by
    cases t0; exact ⟨_, _, _, _, _, _, _, _, Lib.hid rfl⟩
  rw [HTE.out] at w0
  simp only [ValAt] at w0
  obtain ⟨kv0, a, cap, rfl, hk, hl, hm, -, -⟩ := w0
  obtain ⟨ka, kc, rfl, hkl0, hkm0, -⟩ := hk.len
  unfold maxLen at hm hkm0
  have HK := Lib.hid hk
  clear hk
  have hb0 : Below w.heap.size w (w.alloc (.cells #[.int .i64 kind, .bool is, .bool neg, .string digits, .int .i64 exp, .string str, .slice ka keys.length kc, .slice a kids.length cap] 27)) := (Below.refl _ w).alloc (Nat.le_refl _) _
  have hwk := twakes_any _ (hT.below hb0 hT.pos)
  clear hb0
  simp only [valV]
  go_enter Tryd.func7, Tryd.ntmps7
  go_wp2_with fail
  refine hwk.mono ?_
  clear hwk
  rintro e w3 ⟨rfl, hb3⟩
  obtain ⟨h2, hz3, hbw⟩ := one_new hb3
  clear hb3
  have hG := Great_any t0 hf w3 _ (ValAt.below hbw _ _ HV0.out)
  have l2 := h2.lt
  have H := Lib.hid (And.intro h2 hbw)
  simp only [valV] at hG
  have h2c0 := h2.cell 0 _ rfl
  have h2f0 := h2.frozen 0
  have h2c1 := h2.cell 1 _ rfl
  have h2f1 := h2.frozen 1
  have h2c2 := h2.cell 2 _ rfl
  have h2f2 := h2.frozen 2
  have h2c3 := h2.cell 3 _ rfl
  have h2f3 := h2.frozen 3
  have h2c4 := h2.cell 4 _ rfl
  have h2f4 := h2.frozen 4
  have h2c5 := h2.cell 5 _ rfl
  have h2f5 := h2.frozen 5
  have h2c6 := h2.cell 6 _ rfl
  have h2f6 := h2.frozen 6
  have h2c7 := h2.cell 7 _ rfl
  have h2f7 := h2.frozen 7
  clear h2 hbw
  go_wp2_with fail
  refine hG.mono ?_
  clear hG h2c0 h2c1 h2c2 h2c3 h2c4 h2c5 h2c6 h2c7 h2f0 h2f1 h2f2 h2f3 h2f4 h2f5 h2f6 h2f7
  rintro e w4 ⟨⟨b, rfl, hgb⟩, hb4⟩
  obtain ⟨h2, hbw⟩ := H.out
  replace h2 := h2.below hb4 l2
  replace hbw := hbw.trans (hb4.mono hbw.size)
  clear H hb4 l2
  have HGB := Lib.hid hgb
  clear hgb
  cases b
  · have hkt : t0.bulk ≤ 20000 := HGB.out (by trivial)
    clear HGB
    have hkk : keys.length ≤ 20000 := by
      have := hkt
      rw [HTE.out] at this
      simp only [Tree.bulk] at this
      have := len_ks keys
      omega
    obtain ⟨br, hbr⟩ := some_bool (rightT 64 t0)
    have hR := SameP.fix hbr (rRight_any t0 (by omega) w4 _ (ValAt.below hbw _ _ HV0.out))
    have HBR := Lib.hid hbr
    have l4 := h2.lt
    have H := Lib.hid (And.intro h2 hbw)
    simp only [valV] at hR
    have h2c0 := h2.cell 0 _ rfl
    have h2f0 := h2.frozen 0
    have h2c1 := h2.cell 1 _ rfl
    have h2f1 := h2.frozen 1
    have h2c2 := h2.cell 2 _ rfl
    have h2f2 := h2.frozen 2
    have h2c3 := h2.cell 3 _ rfl
    have h2f3 := h2.frozen 3
    have h2c4 := h2.cell 4 _ rfl
    have h2f4 := h2.frozen 4
    have h2c5 := h2.cell 5 _ rfl
    have h2f5 := h2.frozen 5
    have h2c6 := h2.cell 6 _ rfl
    have h2f6 := h2.frozen 6
    have h2c7 := h2.cell 7 _ rfl
    have h2f7 := h2.frozen 7
    clear h2 hbw hbr
    go_wp2_with fail
    refine hR.mono ?_
    clear hR h2c0 h2c1 h2c2 h2c3 h2c4 h2c5 h2c6 h2c7 h2f0 h2f1 h2f2 h2f3 h2f4 h2f5 h2f6 h2f7
    rintro e w5 ⟨rfl, hb5⟩
    obtain ⟨h2, hbw⟩ := H.out
    have h5 := h2.below hb5 l4
    have hbw5 := hbw.trans (hb5.mono hbw.size)
    clear H h2 hbw hb5 l4
    cases br
    · have HB5 := Lib.hid hbw5
      clear h5 hbw5
      go_wp2_with fail
      go_ret
      exact ⟨rfl, HB5.out⟩
    · have hright : rightT 64 t0 := HBR.out.1 (by trivial)
      have hS := Sort_any t0 (by omega) w5 (hT.below hbw5 hT.pos) _ (ValAt.below hbw5 _ _ HV0.out)
      have HRT := Lib.hid hright
      have l5 := h5.lt
      have H := Lib.hid (And.intro h5 hbw5)
      simp only [valV] at hS
      have h5c0 := h5.cell 0 _ rfl
      have h5f0 := h5.frozen 0
      have h5c1 := h5.cell 1 _ rfl
      have h5f1 := h5.frozen 1
      have h5c2 := h5.cell 2 _ rfl
      have h5f2 := h5.frozen 2
      have h5c3 := h5.cell 3 _ rfl
      have h5f3 := h5.frozen 3
      have h5c4 := h5.cell 4 _ rfl
      have h5f4 := h5.frozen 4
      have h5c5 := h5.cell 5 _ rfl
      have h5f5 := h5.frozen 5
      have h5c6 := h5.cell 6 _ rfl
      have h5f6 := h5.frozen 6
      have h5c7 := h5.cell 7 _ rfl
      have h5f7 := h5.frozen 7
      clear h5 hbw5 hright HBR
      go_wp2_with fail
      refine hS.mono ?_
      clear hS h5c0 h5c1 h5c2 h5c3 h5c4 h5c5 h5c6 h5c7 h5f0 h5f1 h5f2 h5f3 h5f4 h5f5 h5f6 h5f7
      rintro e w6 ⟨⟨cs6, s6, rfl, hv6, hy6, -⟩, hb6⟩
      have hs6 := hy6 HRT.out
      subst hs6
      have hv6' := hv6
      obtain ⟨ks', kids', hform, hkl', hkd'⟩ := sort_form (kind := kind) (is := is) (neg := neg) (d := digits) (e := exp) (s := str) (ks := keys) (kids := kids) (by
        have h := HRT.out
        rw [HTE.out] at h
        exact h.1)
      rw [HTE.out, hform] at hv6'
      simp only [ValAt] at hv6'
      obtain ⟨kv1, a2, c2, rfl, hk1, -⟩ := hv6'
      obtain ⟨a1, c1, rfl, -⟩ := hk1.len
      rw [hkl', hkd'] at hv6 ⊢
      clear hform hk1 hy6 hkl' hkd'
      obtain ⟨h5, hbx⟩ := H.out
      have h6 := h5.below hb6 l5
      have hb7 : Below w6.heap.size w6 (w6.alloc (.cells #[.int .i64 kind, .bool is, .bool neg, .string digits, .int .i64 exp, .string str, .slice a1 keys.length c1, .slice a2 kids.length c2] 27)) := (Below.refl _ _).alloc (Nat.le_refl _) _
      have h7 := h6.below hb7 h6.lt
      have k7 := Cells.new w6 #[.int .i64 kind, .bool is, .bool neg, .string digits, .int .i64 exp, .string str, .slice a1 keys.length c1, .slice a2 kids.length c2] 27
      have hv7 := ValAt.below hb7 _ _ hv6
      have hbw7 := (hbx.trans (hb6.mono hbx.size)).trans (hb7.mono (hbx.trans (hb6.mono hbx.size)).size)
      have HB7 := Lib.hid (And.intro h7 (And.intro k7 (And.intro hv7 hbw7)))
      have c76 := h7.cell 6 _ rfl
      have l7 := h7.lt
      clear H h5 hbx hb6 l5 h6 hb7 hv6 h7 k7 hv7 hbw7
      simp only [valV] at ⊢
      go_wp2_with fail
      clear c76
      go_loopw [24] (fun i wr => ∃ k : Nat, k ≤ keys.length ∧ i = .int .i64 (k : Int) ∧ Cells wr w.heap.size #[.int .i64 kind, .bool is, .bool neg, .string digits, .int .i64 exp, .string str, .slice ka keys.length kc, .slice a kids.length cap] 27 ∧ Cells wr w6.heap.size #[.int .i64 kind, .bool is, .bool neg, .string digits, .int .i64 exp, .string str, .slice a1 keys.length c1, .slice a2 kids.length c2] 27 ∧ ValAt wr (sortT t0) [.int .i64 kind, .bool is, .bool neg, .string digits, .int .i64 exp, .string str, .slice a1 keys.length c1, .slice a2 kids.length c2] ∧ Below w.heap.size w wr) (fun i _ => keys.length - (intOf i).toNat)
      case atStart => exact ⟨0, Nat.zero_le _, rfl, HB7.out.1, HB7.out.2.1, HB7.out.2.2.1, HB7.out.2.2.2⟩
      case round =>
        clear HB7
        obtain ⟨k, hkk2, rfl, g1, g3, gv, gb⟩ := hrel
        have y1 := g1.lt
        have y3 := g3.lt
        by_cases hkl : k < keys.length
        · obtain ⟨kb, ko, rfl, hkb, hkc⟩ := (HK.out.below gb (Nat.le_refl _)).at hkl
          have hck := hkc k hkl
          have hfind : ∃ u, getT keys[k] t0 = some u ∧ getT keys[k] (sortT t0) = some (sortT u) ∧ rightT 63 u := by
            have h := HRT.out
            rw [HTE.out] at h ⊢
            exact sort_find h (List.getElem_mem hkl)
          clear hkc
          generalize keys[k] = key at *
          obtain ⟨u, hu1, hu2, hu3⟩ := hfind
          have hub := getT_bulk hu1
          have hbt := sort_bulk 64 t0 HRT.out
          have hwu := ((right_iff 63 u).1 hu3).2
          have hGet := Get_any (sortT t0) (by omega) key wr _ gv
          rw [hu2] at hGet
          have hGot := fun W hW => rget_any t0 key w W hW _ HV0.out
          rw [hu1] at hGot
          have HGOT := Lib.hid hGot
          have H := Lib.hid (And.intro g1 (And.intro g3 (And.intro gv gb)))
          have q6 := g1.cell 6 _ rfl
          simp only [valV] at hGet
          have g3c0 := g3.cell 0 _ rfl
          have g3f0 := g3.frozen 0
          have g3c1 := g3.cell 1 _ rfl
          have g3f1 := g3.frozen 1
          have g3c2 := g3.cell 2 _ rfl
          have g3f2 := g3.frozen 2
          have g3c3 := g3.cell 3 _ rfl
          have g3f3 := g3.frozen 3
          have g3c4 := g3.cell 4 _ rfl
          have g3f4 := g3.frozen 4
          have g3c5 := g3.cell 5 _ rfl
          have g3f5 := g3.frozen 5
          have g3c6 := g3.cell 6 _ rfl
          have g3f6 := g3.frozen 6
          have g3c7 := g3.cell 7 _ rfl
          have g3f7 := g3.frozen 7
          clear g1 g3 gv gb hGot hu1 hu2 hu3
          go_wp2_with fail
          refine hGet.mono ?_
          clear hGet q6 g3c0 g3c1 g3c2 g3c3 g3c4 g3c5 g3c6 g3c7 g3f0 g3f1 g3f2 g3f3 g3f4 g3f5 g3f6 g3f7
          rintro e wa ⟨⟨csa, rfl, hina⟩, hba⟩
          obtain ⟨kindA, isA, negA, digA, expA, strA, kaA, knA, kcA, saA, snA, scA, rfl⟩ := ValIn.shape hina
          obtain ⟨g1, g3, gv, gb⟩ := H.out
          have i1 := g1.below hba y1
          have i3 := g3.below hba y3
          have iv := ValAt.below hba _ _ gv
          have ib := gb.trans (hba.mono gb.size)
          have za : Below wa.heap.size wa (wa.alloc (.cells #[.int .i64 kindA, .bool isA, .bool negA, .string digA, .int .i64 expA, .string strA, .slice kaA knA kcA, .slice saA snA scA] 27)) := (Below.refl _ _).alloc (Nat.le_refl _) _
          have j1 := i1.below za i1.lt
          have j3 := i3.below za i3.lt
          have jv := ValAt.below za _ _ iv
          have jb := ib.trans (za.mono ib.size)
          have ja := Cells.new wa #[.int .i64 kindA, .bool isA, .bool negA, .string digA, .int .i64 expA, .string strA, .slice kaA knA kcA, .slice saA snA scA] 27
          have jva : ValAt (wa.alloc (.cells #[.int .i64 kindA, .bool isA, .bool negA, .string digA, .int .i64 expA, .string strA, .slice kaA knA kcA, .slice saA snA scA] 27)) (sortT u) [.int .i64 kindA, .bool isA, .bool negA, .string digA, .int .i64 expA, .string strA, .slice kaA knA kcA, .slice saA snA scA] := ValAt.below za _ _ (ValIn.at _ _ hina)
          have hG2 := HGOT.out (wa.alloc (.cells #[.int .i64 kindA, .bool isA, .bool negA, .string digA, .int .i64 expA, .string strA, .slice kaA knA kcA, .slice saA snA scA] 27)) jb
          have x1 := j1.lt
          have x3 := j3.lt
          have xa := ja.lt
          clear H g1 g3 gv gb i1 i3 iv ib za hina hba HGOT y1 y3
          have H := Lib.hid (And.intro j1 (And.intro j3 (And.intro jv (And.intro jb (And.intro ja jva)))))
          simp only [valV, Option.isSome_some] at hG2 ⊢
          have j1c0 := j1.cell 0 _ rfl
          have j1f0 := j1.frozen 0
          have j1c1 := j1.cell 1 _ rfl
          have j1f1 := j1.frozen 1
          have j1c2 := j1.cell 2 _ rfl
          have j1f2 := j1.frozen 2
          have j1c3 := j1.cell 3 _ rfl
          have j1f3 := j1.frozen 3
          have j1c4 := j1.cell 4 _ rfl
          have j1f4 := j1.frozen 4
          have j1c5 := j1.cell 5 _ rfl
          have j1f5 := j1.frozen 5
          have j1c6 := j1.cell 6 _ rfl
          have j1f6 := j1.frozen 6
          have j1c7 := j1.cell 7 _ rfl
          have j1f7 := j1.frozen 7
          clear j1 j3 jv jb ja jva
          go_wp2_with fail
          refine hG2.mono ?_
          clear hG2 j1c0 j1c1 j1c2 j1c3 j1c4 j1c5 j1c6 j1c7 j1f0 j1f1 j1f2 j1f3 j1f4 j1f5 j1f6 j1f7
          rintro e wb ⟨⟨csb, rfl, hvb⟩, hbb⟩
          replace hvb : ValAt w u csb := hvb
          obtain ⟨kindB, isB, negB, digB, expB, strB, kaB, knB, kcB, saB, snB, scB, rfl⟩ := ValAt.shapeT hvb
          obtain ⟨g1, g3, gv, gb, ga, gva⟩ := H.out
          have i1 := g1.below hbb x1
          have i3 := g3.below hbb x3
          have ia := ga.below hbb xa
          have iv := ValAt.below hbb _ _ gv
          have iva := ValAt.below hbb _ _ gva
          have ib := gb.trans (hbb.mono gb.size)
          have zb : Below wb.heap.size wb (wb.alloc (.cells #[.int .i64 kindB, .bool isB, .bool negB, .string digB, .int .i64 expB, .string strB, .slice kaB knB kcB, .slice saB snB scB] 27)) := (Below.refl _ _).alloc (Nat.le_refl _) _
          have j1 := i1.below zb i1.lt
          have j3 := i3.below zb i3.lt
          have ja := ia.below zb ia.lt
          have jv := ValAt.below zb _ _ iv
          have jva := ValAt.below zb _ _ iva
          have jb := ib.trans (zb.mono ib.size)
          have jn := Cells.new wb #[.int .i64 kindB, .bool isB, .bool negB, .string digB, .int .i64 expB, .string strB, .slice kaB knB kcB, .slice saB snB scB] 27
          have hRS := rSort_any u (by omega) hwu (wb.alloc (.cells #[.int .i64 kindB, .bool isB, .bool negB, .string digB, .int .i64 expB, .string strB, .slice kaB knB kcB, .slice saB snB scB] 27)).drew _ (ValAt.below jb.drew _ _ hvb)
          clear H g1 g3 gv gb ga gva i1 i3 ia iv iva ib zb hvb hbb x1 x3 xa hwu
          simp only [valV, Option.isSome_some] at hRS ⊢
          go_wp2_with fail
          generalize wb.alloc (.cells #[.int .i64 kindB, .bool isB, .bool negB, .string digB, .int .i64 expB, .string strB, .slice kaB knB kcB, .slice saB snB scB] 27) = wc at *
          have x1 := j1.lt
          have x3 := j3.lt
          have xa := ja.lt
          have xn := jn.lt
          have HH := Lib.hid (And.intro j1 (And.intro j3 (And.intro jv (And.intro jb (And.intro ja (And.intro jva jn))))))
          have hs1 : wc.cell? ⟨wa.heap.size, 0, none⟩ = some (.int .i64 kindA) ∧ wc.cell? ⟨wa.heap.size, 1, none⟩ = some (.bool isA) ∧ wc.cell? ⟨wa.heap.size, 2, none⟩ = some (.bool negA) ∧ wc.cell? ⟨wa.heap.size, 3, none⟩ = some (.string digA) ∧ wc.cell? ⟨wa.heap.size, 4, none⟩ = some (.int .i64 expA) ∧ wc.cell? ⟨wa.heap.size, 5, none⟩ = some (.string strA) ∧ wc.cell? ⟨wa.heap.size, 6, none⟩ = some (.slice kaA knA kcA) ∧ wc.cell? ⟨wa.heap.size, 7, none⟩ = some (.slice saA snA scA) ∧ wc.cell? ⟨wb.heap.size, 0, none⟩ = some (.int .i64 kindB) ∧ wc.cell? ⟨wb.heap.size, 1, none⟩ = some (.bool isB) ∧ wc.cell? ⟨wb.heap.size, 2, none⟩ = some (.bool negB) ∧ wc.cell? ⟨wb.heap.size, 3, none⟩ = some (.string digB) ∧ wc.cell? ⟨wb.heap.size, 4, none⟩ = some (.int .i64 expB) ∧ wc.cell? ⟨wb.heap.size, 5, none⟩ = some (.string strB) ∧ wc.cell? ⟨wb.heap.size, 6, none⟩ = some (.slice kaB knB kcB) ∧ wc.cell? ⟨wb.heap.size, 7, none⟩ = some (.slice saB snB scB) := ⟨ja.cell 0 _ rfl, ja.cell 1 _ rfl, ja.cell 2 _ rfl, ja.cell 3 _ rfl, ja.cell 4 _ rfl, ja.cell 5 _ rfl, ja.cell 6 _ rfl, ja.cell 7 _ rfl, jn.cell 0 _ rfl, jn.cell 1 _ rfl, jn.cell 2 _ rfl, jn.cell 3 _ rfl, jn.cell 4 _ rfl, jn.cell 5 _ rfl, jn.cell 6 _ rfl, jn.cell 7 _ rfl⟩
          clear j1 j3 jv jb ja jva jn
          go_region_held3 (fun w' => w'.cell? ⟨wa.heap.size, 0, none⟩ = some (.int .i64 kindA) ∧ w'.cell? ⟨wa.heap.size, 1, none⟩ = some (.bool isA) ∧ w'.cell? ⟨wa.heap.size, 2, none⟩ = some (.bool negA) ∧ w'.cell? ⟨wa.heap.size, 3, none⟩ = some (.string digA) ∧ w'.cell? ⟨wa.heap.size, 4, none⟩ = some (.int .i64 expA) ∧ w'.cell? ⟨wa.heap.size, 5, none⟩ = some (.string strA) ∧ w'.cell? ⟨wa.heap.size, 6, none⟩ = some (.slice kaA knA kcA) ∧ w'.cell? ⟨wa.heap.size, 7, none⟩ = some (.slice saA snA scA) ∧ w'.cell? ⟨wb.heap.size, 0, none⟩ = some (.int .i64 kindB) ∧ w'.cell? ⟨wb.heap.size, 1, none⟩ = some (.bool isB) ∧ w'.cell? ⟨wb.heap.size, 2, none⟩ = some (.bool negB) ∧ w'.cell? ⟨wb.heap.size, 3, none⟩ = some (.string digB) ∧ w'.cell? ⟨wb.heap.size, 4, none⟩ = some (.int .i64 expB) ∧ w'.cell? ⟨wb.heap.size, 5, none⟩ = some (.string strB) ∧ w'.cell? ⟨wb.heap.size, 6, none⟩ = some (.slice kaB knB kcB) ∧ w'.cell? ⟨wb.heap.size, 7, none⟩ = some (.slice saB snB scB)) (first | (with_reducible exact hs1) | (with_reducible exact hs2) | (with_reducible exact hs3) | go_keep) (first
            | (go_at_call 30; refine hRS.mono ?_; rintro e wd ⟨⟨csd, rfl, hind⟩, hbd⟩; obtain ⟨kindD, isD, negD, digD, expD, strD, kaD, knD, kcD, saD, snD, scD, rfl⟩ := ValIn.shape hind; have d1 := HH.out.1.drew.below hbd x1; have d3 := HH.out.2.1.drew.below hbd x3; have da := HH.out.2.2.2.2.1.drew.below hbd xa; have dn := HH.out.2.2.2.2.2.2.drew.below hbd xn; have dv := ValAt.below hbd _ _ (ValAt.below (Below.refl _ wc).drew _ _ HH.out.2.2.1); have dva := ValAt.below hbd _ _ (ValAt.below (Below.refl _ wc).drew _ _ HH.out.2.2.2.2.2.1); have hs2 : wd.cell? ⟨wa.heap.size, 0, none⟩ = some (.int .i64 kindA) ∧ wd.cell? ⟨wa.heap.size, 1, none⟩ = some (.bool isA) ∧ wd.cell? ⟨wa.heap.size, 2, none⟩ = some (.bool negA) ∧ wd.cell? ⟨wa.heap.size, 3, none⟩ = some (.string digA) ∧ wd.cell? ⟨wa.heap.size, 4, none⟩ = some (.int .i64 expA) ∧ wd.cell? ⟨wa.heap.size, 5, none⟩ = some (.string strA) ∧ wd.cell? ⟨wa.heap.size, 6, none⟩ = some (.slice kaA knA kcA) ∧ wd.cell? ⟨wa.heap.size, 7, none⟩ = some (.slice saA snA scA) ∧ wd.cell? ⟨wb.heap.size, 0, none⟩ = some (.int .i64 kindB) ∧ wd.cell? ⟨wb.heap.size, 1, none⟩ = some (.bool isB) ∧ wd.cell? ⟨wb.heap.size, 2, none⟩ = some (.bool negB) ∧ wd.cell? ⟨wb.heap.size, 3, none⟩ = some (.string digB) ∧ wd.cell? ⟨wb.heap.size, 4, none⟩ = some (.int .i64 expB) ∧ wd.cell? ⟨wb.heap.size, 5, none⟩ = some (.string strB) ∧ wd.cell? ⟨wb.heap.size, 6, none⟩ = some (.slice kaB knB kcB) ∧ wd.cell? ⟨wb.heap.size, 7, none⟩ = some (.slice saB snB scB) := ⟨da.cell 0 _ rfl, da.cell 1 _ rfl, da.cell 2 _ rfl, da.cell 3 _ rfl, da.cell 4 _ rfl, da.cell 5 _ rfl, da.cell 6 _ rfl, da.cell 7 _ rfl, dn.cell 0 _ rfl, dn.cell 1 _ rfl, dn.cell 2 _ rfl, dn.cell 3 _ rfl, dn.cell 4 _ rfl, dn.cell 5 _ rfl, dn.cell 6 _ rfl, dn.cell 7 _ rfl⟩; have hE := rSame_two (sortT u) wd _ _ dva (ValIn.at _ _ hind); have HBD := Lib.hid (HH.out.2.2.2.1.drew.trans (hbd.mono HH.out.2.2.2.1.drew.size)); have HD := Lib.hid (And.intro d1 (And.intro d3 (And.intro dv (And.intro da dn)))); have e1 := d1.lt; have e3 := d3.lt; have ea := da.lt; have en := dn.lt; clear hbd hind d1 d3 da dn dv dva hs1 hRS; simp only [valV] at hE ⊢)
            | (go_at_call 18; refine hE.mono ?_; rintro e we ⟨rfl, hbe⟩; have f1 := HD.out.1.below hbe e1; have f3 := HD.out.2.1.below hbe e3; have fv := ValAt.below hbe _ _ HD.out.2.2.1; have fa := HD.out.2.2.2.1.below hbe ea; have fn := HD.out.2.2.2.2.below hbe en; have hs3 : we.cell? ⟨wa.heap.size, 0, none⟩ = some (.int .i64 kindA) ∧ we.cell? ⟨wa.heap.size, 1, none⟩ = some (.bool isA) ∧ we.cell? ⟨wa.heap.size, 2, none⟩ = some (.bool negA) ∧ we.cell? ⟨wa.heap.size, 3, none⟩ = some (.string digA) ∧ we.cell? ⟨wa.heap.size, 4, none⟩ = some (.int .i64 expA) ∧ we.cell? ⟨wa.heap.size, 5, none⟩ = some (.string strA) ∧ we.cell? ⟨wa.heap.size, 6, none⟩ = some (.slice kaA knA kcA) ∧ we.cell? ⟨wa.heap.size, 7, none⟩ = some (.slice saA snA scA) ∧ we.cell? ⟨wb.heap.size, 0, none⟩ = some (.int .i64 kindB) ∧ we.cell? ⟨wb.heap.size, 1, none⟩ = some (.bool isB) ∧ we.cell? ⟨wb.heap.size, 2, none⟩ = some (.bool negB) ∧ we.cell? ⟨wb.heap.size, 3, none⟩ = some (.string digB) ∧ we.cell? ⟨wb.heap.size, 4, none⟩ = some (.int .i64 expB) ∧ we.cell? ⟨wb.heap.size, 5, none⟩ = some (.string strB) ∧ we.cell? ⟨wb.heap.size, 6, none⟩ = some (.slice kaB knB kcB) ∧ we.cell? ⟨wb.heap.size, 7, none⟩ = some (.slice saB snB scB) := ⟨fa.cell 0 _ rfl, fa.cell 1 _ rfl, fa.cell 2 _ rfl, fa.cell 3 _ rfl, fa.cell 4 _ rfl, fa.cell 5 _ rfl, fa.cell 6 _ rfl, fa.cell 7 _ rfl, fn.cell 0 _ rfl, fn.cell 1 _ rfl, fn.cell 2 _ rfl, fn.cell 3 _ rfl, fn.cell 4 _ rfl, fn.cell 5 _ rfl, fn.cell 6 _ rfl, fn.cell 7 _ rfl⟩; have HE := Lib.hid (And.intro f1 (And.intro f3 (And.intro fv (HBD.out.trans (hbe.mono HBD.out.size))))); clear hbe f1 f3 fv fa fn hs2 hE))
          all_goals
            go_wp2_with fail
            go_roundw
          all_goals first
            | exact ⟨k + 1, hkl, by go_num, HE.out.1, HE.out.2.1, HE.out.2.2.1, HE.out.2.2.2⟩
            | (simp [intOf]; omega)
        · obtain rfl : k = keys.length := by omega
          have HB := Lib.hid gb
          clear gv gb
          have g1c0 := g1.cell 0 _ rfl
          have g1f0 := g1.frozen 0
          have g1c1 := g1.cell 1 _ rfl
          have g1f1 := g1.frozen 1
          have g1c2 := g1.cell 2 _ rfl
          have g1f2 := g1.frozen 2
          have g1c3 := g1.cell 3 _ rfl
          have g1f3 := g1.frozen 3
          have g1c4 := g1.cell 4 _ rfl
          have g1f4 := g1.frozen 4
          have g1c5 := g1.cell 5 _ rfl
          have g1f5 := g1.frozen 5
          have g1c6 := g1.cell 6 _ rfl
          have g1f6 := g1.frozen 6
          have g1c7 := g1.cell 7 _ rfl
          have g1f7 := g1.frozen 7
          have g3c0 := g3.cell 0 _ rfl
          have g3f0 := g3.frozen 0
          have g3c1 := g3.cell 1 _ rfl
          have g3f1 := g3.frozen 1
          have g3c2 := g3.cell 2 _ rfl
          have g3f2 := g3.frozen 2
          have g3c3 := g3.cell 3 _ rfl
          have g3f3 := g3.frozen 3
          have g3c4 := g3.cell 4 _ rfl
          have g3f4 := g3.frozen 4
          have g3c5 := g3.cell 5 _ rfl
          have g3f5 := g3.frozen 5
          have g3c6 := g3.cell 6 _ rfl
          have g3f6 := g3.frozen 6
          have g3c7 := g3.cell 7 _ rfl
          have g3f7 := g3.frozen 7
          clear g1 g3
          go_wp2_with fail
          go_ret
          exact ⟨rfl, HB.out⟩
  · have HB := Lib.hid hbw
    clear h2 hbw
    go_wp2_with fail
    go_ret
    exact ⟨rfl, HB.out⟩
end Go.Proofs.YtpcfhiipkbpmkaaDoor
