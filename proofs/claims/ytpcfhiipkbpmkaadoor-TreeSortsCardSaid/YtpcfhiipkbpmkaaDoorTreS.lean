/- The walk of the examples (layer 8). -/
import Derived.Test.YtpcfhiipkbpmkaaDoorTreR
namespace Go.Proofs.YtpcfhiipkbpmkaaDoor
open Go.RowKit Go.Tab

def oneT : Tree := .mk 2 true false ⟨#[]⟩ 0 ⟨#[]⟩ [] []
theorem one_at (w : World) : ValAt w oneT [.int .i64 2, .bool true, .bool false, .string ⟨#[]⟩, .int .i64 0, .string ⟨#[]⟩, .slice none 0 0, .slice none 0 0] := by
  simp only [oneT, ValAt]
  exact ⟨_, none, 0, rfl, RowOf.nil, Nat.le_refl _, by decide, fun _ => rfl, fun x h => by cases h⟩
def pairT (a b : ByteArray) : Tree := .mk 6 false false ⟨#[]⟩ 0 ⟨#[]⟩ [a, b] [oneT, oneT]
theorem pair_at {w : World} {g1 g2 : Nat} {a b : ByteArray} (h1 : Cells w g1 #[.string a, .string b] 9)
    (h2 : Cells w g2 #[.int .i64 2, .bool true, .bool false, .string ⟨#[]⟩, .int .i64 0, .string ⟨#[]⟩, .slice none 0 0, .slice none 0 0, .int .i64 2, .bool true, .bool false, .string ⟨#[]⟩, .int .i64 0, .string ⟨#[]⟩, .slice none 0 0, .slice none 0 0] 27) :
    ValAt w (pairT a b) [.int .i64 6, .bool false, .bool false, .string ⟨#[]⟩, .int .i64 0, .string ⟨#[]⟩, .slice (some ⟨g1, 0, none⟩) 2 2, .slice (some ⟨g2, 0, none⟩) 2 2] := by
  simp only [pairT, ValAt]
  refine ⟨_, _, _, rfl, ⟨some ⟨g1, 0, none⟩, 2, rfl, Nat.le_refl _, by decide, (fun h => by cases h), fun x hx _ => ?_⟩, Nat.le_refl _, by decide, (fun h => by cases h), fun x hx _ => ?_⟩
  · cases hx
    refine ⟨rfl, h1.lt, fun j hj => ?_⟩
    rw [Nat.zero_add]
    rcases j with _ | _ | j
    · exact h1.cell 0 _ rfl
    · exact h1.cell 1 _ rfl
    · exact absurd hj (by simp)
  · cases hx
    refine ⟨rfl, h2.lt, ?_⟩
    simp only [KidsAt]
    refine ⟨⟨_, fun j u hu => ?_, one_at w⟩, ⟨_, fun j u hu => ?_, one_at w⟩, trivial⟩
    · rcases j with _ | _ | _ | _ | _ | _ | _ | _ | j
      all_goals first | (simp at hu; done) | (cases hu; exact h2.cell _ _ rfl)
    · rcases j with _ | _ | _ | _ | _ | _ | _ | _ | j
      all_goals first | (simp at hu; done) | (cases hu; exact h2.cell _ _ rfl)

theorem numR_zero : numR false ⟨#[]⟩ 0 = true := by rw [numR_empty rfl]; rfl
theorem one_right (n : Nat) : rightT (n + 1) oneT := by
  simp only [oneT, rightT, plainT]
  refine ⟨⟨by omega, by simp, by simp, by simp, by simp, by simp, by simp, numR_zero, rfl, by simp [keysR]⟩, fun k h => by simp at h⟩
theorem pair_wrong : ¬ rightT 64 (pairT ⟨#[97]⟩ ⟨#[97]⟩) := by
  simp only [pairT, rightT, plainT]
  rintro ⟨⟨-, -, -, -, -, -, -, -, -, -, h⟩, -⟩
  simp at h
theorem pair_right : rightT 64 (pairT ⟨#[97]⟩ ⟨#[98]⟩) := by
  simp only [pairT, rightT, plainT]
  refine ⟨⟨by omega, by simp, by simp, by simp, by simp, by simp, by simp, numR_zero, rfl, ?_, ?_⟩, fun k h => ?_⟩
  · intro x hx
    simp at hx
    rcases hx with rfl | rfl
    · unfold validS; decide +kernel
    · unfold validS; decide +kernel
  · rw [List.nodup_cons, List.nodup_cons]
    simp
  · rcases k with _ | _ | k
    · exact one_right 62
    · exact one_right 62
    · exact absurd h (by simp)

theorem seven {w W : World} {c1 c2 c3 c4 c5 c6 c7 : Array Value} {t1 t2 t3 t4 t5 t6 t7 : TypeId}
    (h : W = ((((((w.alloc (.cells c1 t1)).alloc (.cells c2 t2)).alloc (.cells c3 t3)).alloc (.cells c4 t4)).alloc (.cells c5 t5)).alloc (.cells c6 t6)).alloc (.cells c7 t7)) :
    (Cells W (w.heap.size + 1) c2 t2 ∧ Cells W (w.heap.size + 1 + 1) c3 t3) ∧ (Cells W (w.heap.size + 1 + 1 + 1 + 1) c5 t5 ∧ Cells W (w.heap.size + 1 + 1 + 1 + 1 + 1) c6 t6 ∧ Cells W (w.heap.size + 1 + 1 + 1 + 1 + 1 + 1) c7 t7) ∧ Below w.heap.size w W := by
  have s1 := Cells.new (w.alloc (.cells c1 t1)) c2 t2
  have s2 := Cells.new ((w.alloc (.cells c1 t1)).alloc (.cells c2 t2)) c3 t3
  have s4 := Cells.new ((((w.alloc (.cells c1 t1)).alloc (.cells c2 t2)).alloc (.cells c3 t3)).alloc (.cells c4 t4)) c5 t5
  have s5 := Cells.new (((((w.alloc (.cells c1 t1)).alloc (.cells c2 t2)).alloc (.cells c3 t3)).alloc (.cells c4 t4)).alloc (.cells c5 t5)) c6 t6
  have s6 := Cells.new ((((((w.alloc (.cells c1 t1)).alloc (.cells c2 t2)).alloc (.cells c3 t3)).alloc (.cells c4 t4)).alloc (.cells c5 t5)).alloc (.cells c6 t6)) c7 t7
  simp only [World.size_alloc] at s1 s2 s4 s5 s6
  subst h
  refine ⟨⟨((((s1.alloc _).alloc _).alloc _).alloc _).alloc _, (((s2.alloc _).alloc _).alloc _).alloc _⟩, ⟨(s4.alloc _).alloc _, s5.alloc _, s6⟩, ?_⟩
  (repeat' (first | (with_reducible refine Below.setCell ?_ ?_ _) | (with_reducible refine Below.alloc ?_ ?_ _) | (with_reducible refine Below.drew ?_) | (with_reducible assumption) | (with_reducible exact Below.refl _ _) | (simp only [World.size_alloc, World.size_setCell, World.size_drew]; done) | (simp only [World.size_alloc, World.size_setCell, World.size_drew]; omega) | omega))
theorem Below.src {W w2 : World} (h : Below W.heap.size W w2) : ∃ W', W' = W ∧ Below W'.heap.size W' w2 := ⟨W, rfl, h⟩
def listT : Tree := .mk 5 false false ⟨#[]⟩ 0 ⟨#[]⟩ [] []
theorem list_at (w : World) : ValAt w listT [.int .i64 5, .bool false, .bool false, .string ⟨#[]⟩, .int .i64 0, .string ⟨#[]⟩, .slice none 0 0, .slice none 0 0] := by
  simp only [listT, ValAt]
  exact ⟨_, none, 0, rfl, RowOf.nil, Nat.le_refl _, by decide, fun _ => rfl, fun x h => by cases h⟩

set_option maxHeartbeats 4000000 in
set_option maxRecDepth 100000 in
theorem twakes_any (w : World) (hT : Tab w) : Calls Tryd.prog 14 #[] w fun e w' => e = .returned (.bool true) ∧ Below w.heap.size w w' := by
  go_enter Tryd.func14, Tryd.ntmps14
  go_wp2_with fail
  refine (SameP.fix (b := false) (no_iff pair_wrong) (Right_any (pairT ⟨#[97]⟩ ⟨#[97]⟩) (by decide +kernel) _ (hT.below (seven rfl).2.2 hT.pos) _ (pair_at (seven rfl).1.1 (seven rfl).1.2))).mono ?_
  rintro e w2 ⟨rfl, hb2⟩
  obtain ⟨W, hW, hb2'⟩ := Below.src hb2
  obtain ⟨-, ⟨s4, s5, s6⟩, hB⟩ := seven hW
  clear hW hb2
  have h4 := s4.below hb2' s4.lt
  have h5 := s5.below hb2' s5.lt
  have h6 := s6.below hb2' s6.lt
  have hB2 := hB.trans (hb2'.mono hB.size)
  have hz := h6.lt
  clear s4 s5 s6 hb2' hB
  have HB2 := Lib.hid hB2
  have H4 := Lib.hid h4
  have H5 := Lib.hid h5
  have h6c0 := h6.cell 0 _ rfl
  have h6f0 := h6.frozen 0
  have h6c1 := h6.cell 1 _ rfl
  have h6f1 := h6.frozen 1
  have h6c2 := h6.cell 2 _ rfl
  have h6f2 := h6.frozen 2
  have h6c3 := h6.cell 3 _ rfl
  have h6f3 := h6.frozen 3
  have h6c4 := h6.cell 4 _ rfl
  have h6f4 := h6.frozen 4
  have h6c5 := h6.cell 5 _ rfl
  have h6f5 := h6.frozen 5
  have h6c6 := h6.cell 6 _ rfl
  have h6f6 := h6.frozen 6
  have h6c7 := h6.cell 7 _ rfl
  have h6f7 := h6.frozen 7
  clear hB2 h4 h5 h6
  go_wp2_with fail
  refine (SameP.fix (b := true) (yes_iff pair_right) (Right_any (pairT ⟨#[97]⟩ ⟨#[98]⟩) (by decide +kernel) _ (hT.below HB2.out hT.pos) _ (pair_at H4.out H5.out))).mono ?_
  rintro e w3 ⟨rfl, hb3⟩
  have HB3 := Lib.hid (HB2.out.trans (hb3.mono HB2.out.size))
  clear hb3 HB2 H4 H5
  go_wp2_with fail
  refine (Deep_any 1 listT (by decide +kernel) (by decide +kernel) _ _ (list_at w3)).mono ?_
  rintro e w4 ⟨rfl, hb4⟩
  have hd : deep listT = 1 := by decide +kernel
  rw [hd]
  go_wp2_with fail
  go_ret
  exact ⟨rfl, HB3.out.trans (hb4.mono HB3.out.size)⟩
end Go.Proofs.YtpcfhiipkbpmkaaDoor
