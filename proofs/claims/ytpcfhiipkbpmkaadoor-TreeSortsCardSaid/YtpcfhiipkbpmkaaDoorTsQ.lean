/- The walk of Sort (layer 8). -/
import Derived.Test.YtpcfhiipkbpmkaaDoorTsO
import Derived.Test.YtpcfhiipkbpmkaaDoorTsC
namespace Go.Proofs.YtpcfhiipkbpmkaaDoor
open Go.RowKit Go.Tab

/-- What Sort tells: the value, sorted if it is right. -/
def SortP (t : Tree) (w : World) (e : Ending) (w' : World) : Prop := (∃ cs s, e = .returned (valV cs) ∧ ValAt w' s cs ∧ (rightT 64 t → s = sortT t) ∧ (¬ rightT 64 t → s = t)) ∧ Below w.heap.size w w'
theorem ValAt.shapeQ {w : World} {t : Tree} {cs : List Value} (h : ValAt w t cs) :
    ∃ kind is neg digits exp str ka kn kc sa sn sc, cs = [.int .i64 kind, .bool is, .bool neg, .string digits, .int .i64 exp, .string str, .slice ka kn kc, .slice sa sn sc] := by
  cases t
  simp only [ValAt] at h
  obtain ⟨kv, a, cap, rfl, h2, -⟩ := h
  obtain ⟨ka, kc, rfl, -⟩ := h2.len
  exact ⟨_, _, _, _, _, _, _, _, _, _, _, _, rfl⟩
theorem two_after {w w2 : World} {c1 c2 : Array Value} {T1 T2 : TypeId} (hb : Below ((w.alloc (.cells c1 T1)).alloc (.cells c2 T2)).heap.size ((w.alloc (.cells c1 T1)).alloc (.cells c2 T2)) w2) :
    Cells w2 w.heap.size c1 T1 ∧ Cells w2 (w.heap.size + 1) c2 T2 ∧ w.heap.size + 2 ≤ w2.heap.size ∧ Below w.heap.size w w2 := by
  have hs := hb.size
  simp only [World.size_alloc] at hs
  have h0 : Below w.heap.size w ((w.alloc (.cells c1 T1)).alloc (.cells c2 T2)) := by (repeat' (first | (with_reducible refine Below.setCell ?_ ?_ _) | (with_reducible refine Below.alloc ?_ ?_ _) | (with_reducible refine Below.drew ?_) | (with_reducible assumption) | (with_reducible exact Below.refl _ _) | (simp only [World.size_alloc, World.size_setCell, World.size_drew]; done) | (simp only [World.size_alloc, World.size_setCell, World.size_drew]; omega) | omega))
  refine ⟨((Cells.new w c1 T1).alloc _).below hb (by simp; omega), ?_, by omega, h0.trans (hb.mono h0.size)⟩
  have h := (Cells.new (w.alloc (.cells c1 T1)) c2 T2).below hb (by simp)
  simpa using h

set_option maxHeartbeats 4000000 in
set_option maxRecDepth 100000 in
theorem Sort_any (t : Tree) (hb : t.bulk ≤ 1048576) (w : World) (hT : Tab w) (cs : List Value) (hv : ValAt w t cs) : Calls Tryd.prog 29 #[valV cs] w (SortP t w) := by
  have HV := Lib.hid hv
  obtain ⟨kind, is, neg, digits, exp, str, ka, kn, kc, sa, sn, sc, rfl⟩ := ValAt.shapeQ hv
  clear hv
  have hb0 : Below w.heap.size w ((w.alloc (.cells #[.int .i64 kind, .bool is, .bool neg, .string digits, .int .i64 exp, .string str, .slice ka kn kc, .slice sa sn sc] 27)).alloc (.cells #[.int .i64 0, .bool false, .bool false, .string ⟨#[]⟩, .int .i64 0, .string ⟨#[]⟩, .slice none 0 0, .slice none 0 0] 27)) := by (repeat' (first | (with_reducible refine Below.setCell ?_ ?_ _) | (with_reducible refine Below.alloc ?_ ?_ _) | (with_reducible refine Below.drew ?_) | (with_reducible assumption) | (with_reducible exact Below.refl _ _) | (simp only [World.size_alloc, World.size_setCell, World.size_drew]; done) | (simp only [World.size_alloc, World.size_setCell, World.size_drew]; omega) | omega))
  have hC := CopyS_any t hb _ _ (ValAt.below hb0 _ _ HV.out)
  have hS := sortAll_any t.bulk t (Nat.le_refl _) hb
  have hR := fun W hT cs hv => Right_any t hb W hT cs hv
  obtain ⟨b, hbr⟩ := some_bool (rightT 64 t)
  have hR2 := fun W hT cs hv => SameP.fix hbr (hR W hT cs hv)
  have HBR := Lib.hid hbr
  have HRI := Lib.hid (right_iff 64 t)
  have HS := Lib.hid hS
  have HR := Lib.hid hR2
  clear hb0 hb hS hR hR2 hbr
  simp only [valV] at hC ⊢
  go_enter Tryd.func29, Tryd.ntmps29
  go_wp2_with fail
  refine hC.mono ?_
  clear hC
  rintro e w2 ⟨⟨cs2, lo, rfl, hlo, hlh, hsep⟩, hb2⟩
  obtain ⟨hc1, hc2, hz2, hbw⟩ := two_after hb2
  have hlo2 : w.heap.size + 2 ≤ lo := by simpa using hlo
  clear hb2 hc1 hlo
  obtain ⟨kind2, is2, neg2, dig2, exp2, str2, ka2, kn2, kc2, sa2, sn2, sc2, rfl⟩ := ValIn.shape (ValSep.in _ _ _ _ hsep)
  have hb3 : Below w2.heap.size w2 (w2.alloc (.cells #[.int .i64 kind2, .bool is2, .bool neg2, .string dig2, .int .i64 exp2, .string str2, .slice ka2 kn2 kc2, .slice sa2 sn2 sc2] 27)) := (Below.refl _ _).alloc (Nat.le_refl _) _
  have hc3 := Cells.new w2 #[.int .i64 kind2, .bool is2, .bool neg2, .string dig2, .int .i64 exp2, .string str2, .slice ka2 kn2 kc2, .slice sa2 sn2 sc2] 27
  have hc2' := hc2.below hb3 hc2.lt
  have hR3 := HR.out _ (hT.below (hbw.trans (hb3.mono hbw.size)) hT.pos) _ (ValIn.at _ _ (ValSep.in _ _ _ _ (hsep.below hb3)))
  have HSEP := Lib.hid (hsep.below hb3)
  have HB3 := Lib.hid (hbw.trans (hb3.mono hbw.size))
  clear hsep hc2 hb3 hbw HR
  simp only [valV] at hR3 ⊢
  go_wp2_with fail
  generalize hw3 : w2.alloc (.cells #[.int .i64 kind2, .bool is2, .bool neg2, .string dig2, .int .i64 exp2, .string str2, .slice ka2 kn2 kc2, .slice sa2 sn2 sc2] 27) = w3 at *
  clear hw3
  refine hR3.mono ?_
  clear hR3
  rintro e w4 ⟨rfl, hb4⟩
  have l3 := hc3.lt
  have l2 := hc2'.lt
  have hc4 := hc3.below hb4 l3
  have hc5 := hc2'.below hb4 l2
  have hsep4 := HSEP.out.below hb4
  have HB4 := Lib.hid (HB3.out.trans (hb4.mono HB3.out.size))
  have hz4 := hb4.size
  clear hc3 hc2' HSEP HB3 hb4
  cases b
  · have HSEP := Lib.hid hsep4
    have hfin := setAll_below (w.heap.size + 1) w.heap.size (Nat.le_succ _) [.int .i64 kind2, .bool is2, .bool neg2, .string dig2, .int .i64 exp2, .string str2, .slice ka2 kn2 kc2, .slice sa2 sn2 sc2] 0 _ _ HB4.out
    have hval : ValSep (setAll w4 (w.heap.size + 1) 0 [.int .i64 kind2, .bool is2, .bool neg2, .string dig2, .int .i64 exp2, .string str2, .slice ka2 kn2 kc2, .slice sa2 sn2 sc2]) t [.int .i64 kind2, .bool is2, .bool neg2, .string dig2, .int .i64 exp2, .string str2, .slice ka2 kn2 kc2, .slice sa2 sn2 sc2] lo w2.heap.size :=
      ValSep.move (Nat.le_of_eq (setAll_size _ _ _ _).symm) _ _ _ _ (fun x hx _ => setAll_other _ _ _ _ x (by have := hx.1; omega)) hsep4
    have HF := Lib.hid hfin
    have HVA := Lib.hid (ValIn.at _ _ (ValSep.in _ _ _ _ hval))
    clear hfin hval hsep4
    have hc4c0 := hc4.cell 0 _ rfl
    have hc4f0 := hc4.frozen 0
    have hc4c1 := hc4.cell 1 _ rfl
    have hc4f1 := hc4.frozen 1
    have hc4c2 := hc4.cell 2 _ rfl
    have hc4f2 := hc4.frozen 2
    have hc4c3 := hc4.cell 3 _ rfl
    have hc4f3 := hc4.frozen 3
    have hc4c4 := hc4.cell 4 _ rfl
    have hc4f4 := hc4.frozen 4
    have hc4c5 := hc4.cell 5 _ rfl
    have hc4f5 := hc4.frozen 5
    have hc4c6 := hc4.cell 6 _ rfl
    have hc4f6 := hc4.frozen 6
    have hc4c7 := hc4.cell 7 _ rfl
    have hc4f7 := hc4.frozen 7
    have hc5c0 := hc5.cell 0 _ rfl
    have hc5f0 := hc5.frozen 0
    have hc5c1 := hc5.cell 1 _ rfl
    have hc5f1 := hc5.frozen 1
    have hc5c2 := hc5.cell 2 _ rfl
    have hc5f2 := hc5.frozen 2
    have hc5c3 := hc5.cell 3 _ rfl
    have hc5f3 := hc5.frozen 3
    have hc5c4 := hc5.cell 4 _ rfl
    have hc5f4 := hc5.frozen 4
    have hc5c5 := hc5.cell 5 _ rfl
    have hc5f5 := hc5.frozen 5
    have hc5c6 := hc5.cell 6 _ rfl
    have hc5f6 := hc5.frozen 6
    have hc5c7 := hc5.cell 7 _ rfl
    have hc5f7 := hc5.frozen 7
    clear hc4 hc5
    go_wp2_with fail
    refine bodyPost_ret (v := .agg #[.int .i64 kind2, .bool is2, .bool neg2, .string dig2, .int .i64 exp2, .string str2, .slice ka2 kn2 kc2, .slice sa2 sn2 sc2]) (by simp [results, Tryd.results29, go_sem, *]) rfl ?_
    exact ⟨⟨_, t, rfl, HVA.out, fun h => (by have h2 := HBR.out.2 h; first | exact h2.elim | cases h2), fun _ => rfl⟩, HF.out⟩
  · have hright := HBR.out.1 (by trivial)
    have hw := (HRI.out.1 hright).2
    have hS4 := HS.out hw w4 w2.heap.size 0 lo w2.heap.size _ (by omega) (fun h => by have := h.2; omega) (by omega) (fun j u hu => by rw [Nat.zero_add]; exact hc4.cell j u (by simpa using hu)) hsep4
    have HRT := Lib.hid hright
    have HC4 := Lib.hid (And.intro hc4 hc5)
    have l4 := hc4.lt
    have hc4c0 := hc4.cell 0 _ rfl
    have hc4f0 := hc4.frozen 0
    have hc4c1 := hc4.cell 1 _ rfl
    have hc4f1 := hc4.frozen 1
    have hc4c2 := hc4.cell 2 _ rfl
    have hc4f2 := hc4.frozen 2
    have hc4c3 := hc4.cell 3 _ rfl
    have hc4f3 := hc4.frozen 3
    have hc4c4 := hc4.cell 4 _ rfl
    have hc4f4 := hc4.frozen 4
    have hc4c5 := hc4.cell 5 _ rfl
    have hc4f5 := hc4.frozen 5
    have hc4c6 := hc4.cell 6 _ rfl
    have hc4f6 := hc4.frozen 6
    have hc4c7 := hc4.cell 7 _ rfl
    have hc4f7 := hc4.frozen 7
    clear hright hw hsep4 HS hc5 hc4
    go_wp2_with fail
    refine hS4.mono ?_
    clear hS4 hc4c0 hc4c1 hc4c2 hc4c3 hc4c4 hc4c5 hc4c6 hc4c7 hc4f0 hc4f1 hc4f2 hc4f3 hc4f4 hc4f5 hc4f6 hc4f7
    rintro e w5 ⟨rfl, hin, hch⟩
    have hc6 := hch.cells HC4.out.1 (fun h => by have := h.2; omega)
    have hc7 := hch.cells HC4.out.2 (fun h => by have := h.1; omega)
    have hbe := HB4.out.trans (hch.below (B := w.heap.size) (fun k hk => by have := hk.1; omega) (by omega))
    have hfin := setAll_below (w.heap.size + 1) w.heap.size (Nat.le_succ _) [.int .i64 kind2, .bool is2, .bool neg2, .string dig2, .int .i64 exp2, .string str2, .slice ka2 kn2 kc2, .slice sa2 sn2 sc2] 0 _ _ hbe
    have hval : ValIn (Btw lo w2.heap.size) (setAll w5 (w.heap.size + 1) 0 [.int .i64 kind2, .bool is2, .bool neg2, .string dig2, .int .i64 exp2, .string str2, .slice ka2 kn2 kc2, .slice sa2 sn2 sc2]) (sortT t) [.int .i64 kind2, .bool is2, .bool neg2, .string dig2, .int .i64 exp2, .string str2, .slice ka2 kn2 kc2, .slice sa2 sn2 sc2] :=
      ValIn.move (Nat.le_of_eq (setAll_size _ _ _ _).symm) (fun x hx _ => setAll_other _ _ _ _ x (by have := hx.1; omega)) (fun _ h _ => h) _ _ hin
    have HF := Lib.hid hfin
    have HVA := Lib.hid (ValIn.at _ _ hval)
    have hz5 := hch.size
    clear hfin hval hin hch hbe HC4
    have hc6c0 := hc6.cell 0 _ rfl
    have hc6f0 := hc6.frozen 0
    have hc6c1 := hc6.cell 1 _ rfl
    have hc6f1 := hc6.frozen 1
    have hc6c2 := hc6.cell 2 _ rfl
    have hc6f2 := hc6.frozen 2
    have hc6c3 := hc6.cell 3 _ rfl
    have hc6f3 := hc6.frozen 3
    have hc6c4 := hc6.cell 4 _ rfl
    have hc6f4 := hc6.frozen 4
    have hc6c5 := hc6.cell 5 _ rfl
    have hc6f5 := hc6.frozen 5
    have hc6c6 := hc6.cell 6 _ rfl
    have hc6f6 := hc6.frozen 6
    have hc6c7 := hc6.cell 7 _ rfl
    have hc6f7 := hc6.frozen 7
    have hc7c0 := hc7.cell 0 _ rfl
    have hc7f0 := hc7.frozen 0
    have hc7c1 := hc7.cell 1 _ rfl
    have hc7f1 := hc7.frozen 1
    have hc7c2 := hc7.cell 2 _ rfl
    have hc7f2 := hc7.frozen 2
    have hc7c3 := hc7.cell 3 _ rfl
    have hc7f3 := hc7.frozen 3
    have hc7c4 := hc7.cell 4 _ rfl
    have hc7f4 := hc7.frozen 4
    have hc7c5 := hc7.cell 5 _ rfl
    have hc7f5 := hc7.frozen 5
    have hc7c6 := hc7.cell 6 _ rfl
    have hc7f6 := hc7.frozen 6
    have hc7c7 := hc7.cell 7 _ rfl
    have hc7f7 := hc7.frozen 7
    clear hc6 hc7
    go_wp2_with fail
    refine bodyPost_ret (v := .agg #[.int .i64 kind2, .bool is2, .bool neg2, .string dig2, .int .i64 exp2, .string str2, .slice ka2 kn2 kc2, .slice sa2 sn2 sc2]) (by simp [results, Tryd.results29, go_sem, *]) rfl ?_
    exact ⟨⟨_, sortT t, rfl, HVA.out, fun _ => rfl, fun h => absurd HRT.out h⟩, HF.out⟩
end Go.Proofs.YtpcfhiipkbpmkaaDoor
