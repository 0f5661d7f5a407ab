/- The walk of plain (layer 8). -/
import Derived.Test.YtpcfhiipkbpmkaaDoorTreN
import Derived.Test.YtpcfhiipkbpmkaaDoorTreL
import Derived.Test.YtpcfhiipkbpmkaaDoorNumA
namespace Go.Proofs.YtpcfhiipkbpmkaaDoor
open Go.RowKit Go.Tab

/-- Whether a value is right, its kids and how deep it is left out. -/
def plainT : Tree → Prop
  | .mk kind is neg d e s ks kids => (1 ≤ kind ∧ kind ≤ 6) ∧ (is = true → kind = 2) ∧ (kind = 3 ∨ (neg = false ∧ d = ⟨#[]⟩ ∧ e = 0)) ∧ (kind = 4 ∨ s = ⟨#[]⟩) ∧ (kind = 6 ∨ ks.length = 0) ∧ (kind = 5 ∨ kind = 6 ∨ kids.length = 0) ∧ (kind = 6 → ks.length = kids.length) ∧
    numR neg d e = true ∧ validS s ∧ keysR ks

theorem one_new {w w2 : World} {c1 : Array Value} {T : TypeId} (hb2 : Below (w.alloc (.cells c1 T)).heap.size (w.alloc (.cells c1 T)) w2) : Cells w2 w.heap.size c1 T ∧ w.heap.size < w2.heap.size ∧ Below w.heap.size w w2 := by
  have hs := hb2.size
  simp only [World.size_alloc] at hs
  exact ⟨(Cells.new w c1 T).below hb2 (by simp), by omega, ((Below.refl _ w).alloc (Nat.le_refl _) _).trans (hb2.mono (by simp))⟩
theorem nil_iff {d : ByteArray} : d.toList = [] ↔ d = ⟨#[]⟩ := by
  constructor
  · intro h
    exact list_inj (by rw [h, ByteArray.toList_eq])
  · rintro rfl; rw [ByteArray.toList_eq]
theorem ks_all : ∀ {l : List ByteArray} {x : ByteArray}, x ∈ l → x.size ≤ ksBulk l
  | k :: r, x, h => by
    rcases List.mem_cons.1 h with rfl | h
    · simp only [ksBulk]; omega
    · have := ks_all h; simp only [ksBulk]; omega

set_option linter.unusedSimpArgs false in
set_option maxHeartbeats 4000000 in
set_option maxRecDepth 100000 in
theorem plain_any (t : Tree) (hb : t.bulk ≤ 1048576) (w : World) (hT : Tab w) (cs : List Value) (hv : ValAt w t cs) : Calls Tryd.prog 79 #[valV cs] w (SameP (plainT t) w) := by
  cases t with
  | mk kind is neg d e s ks kids =>
  obtain ⟨p, hp⟩ : ∃ p, p = plainT (.mk kind is neg d e s ks kids) := ⟨_, rfl⟩
  rw [← hp]
  have HP := Lib.hid hp
  clear hp
  have hbb : 1 + d.size + s.size + ksBulk ks + bulkAll kids ≤ 1048576 := by simp only [Tree.bulk] at hb; omega
  have hll := len_bulk kids
  have hlk := len_ks ks
  simp only [ValAt] at hv
  obtain ⟨kv, a, cap, rfl, hk, hl, hm, -, -⟩ := hv
  obtain ⟨ka, kc, rfl, hkl0, hkm0, -⟩ := hk.len
  unfold maxLen at hm hkm0
  have hV := fun W hT => Valid_any s W hT (by omega)
  have hK := fun W hT hv => areKeys_any (.slice ka ks.length kc) ks W hT hv (fun x hx => by have := ks_all hx; omega) (by omega)
  obtain ⟨bK, hbK⟩ := some_bool (keysR ks)
  have hK2 := fun W hT hv => SameP.fix hbK (hK W hT hv)
  obtain ⟨bV, hbV⟩ : ∃ b, b = (scan (bs s) 0).2.isNone := ⟨_, rfl⟩
  rw [← hbV] at hV
  have HBK := Lib.hid hbK
  have HBV := Lib.hid hbV
  clear hK hbK hbV hb
  have HV := Lib.hid hV
  have HK := Lib.hid hK2
  have HR := Lib.hid hk
  have HT := Lib.hid hT
  clear hV hK2 hk
  simp only [valV]
  have hb0 : Below w.heap.size w (w.alloc (.cells #[.int .i64 kind, .bool is, .bool neg, .string d, .int .i64 e, .string s, .slice ka ks.length kc, .slice a kids.length cap] 27)) := (Below.refl _ w).alloc (Nat.le_refl _) _
  have HB0 := Lib.hid hb0
  clear hb0
  by_cases hkind : kind < 1 ∨ (1 ≤ kind ∧ 6 < kind)
  · rcases hkind with hkind | hkind
    all_goals
      go_enter Tryd.func79, Tryd.ntmps79
      go_wp2_with fail
      go_ret
      refine ⟨⟨false, rfl, no_iff (fun h => ?_)⟩, HB0.out⟩
      rw [HP.out] at h
      unfold plainT at h
      omega
  · have hkk : kind = 1 ∨ kind = 2 ∨ kind = 3 ∨ kind = 4 ∨ kind = 5 ∨ kind = 6 := by omega
    clear hkind
    rcases hkk with rfl | rfl | rfl | rfl | rfl | rfl
    · go_enter Tryd.func79, Tryd.ntmps79
      go_wp2_with (first | (go_at_call 56; refine (holds_no 1 _ (by omega)).mono ?_; rintro e1 w1 ⟨rfl, rfl⟩) | (go_at_call 37; refine (numRight_any _ _ _ _ (by omega)).mono ?_; rintro e2 w2 ⟨rfl, hb2⟩; obtain ⟨hc, hz2, hbw⟩ := one_new hb2; have HBW := Lib.hid hbw; have hcc5 := hc.cell 5 _ rfl; have hcc6 := hc.cell 6 _ rfl; clear hb2 hc hbw; generalize hbN : numR _ _ _ = bN; have HBN := Lib.hid hbN; clear hbN) | (go_at_call 109; refine (HV.out _ (HT.out.below HBW.out HT.out.pos)).mono ?_; rintro e3 w3 ⟨rfl, rfl⟩) | (go_at_call 110; refine (HK.out _ (HT.out.below HBW.out HT.out.pos) (HR.out.below HBW.out (Nat.le_refl _))).mono ?_; rintro e4 w4 ⟨rfl, hb4⟩; have HB4 := Lib.hid (HBW.out.trans (hb4.mono HBW.out.size)); clear hb4))
      all_goals
        go_ret
        refine ⟨⟨_, rfl, ?_⟩, ?_⟩
        · skip
          rw [HP.out]
          unfold plainT validS
          have q1 := HBK.out
          have q2 := HBV.out
          try have q3 := HBN.out
          try clear HBN
          clear HP HBK HBV HK HV HR HT HB0 hll hlk hl hm hkl0 hkm0 hbb
          simp only [Bool.not_eq_eq_eq_not, Bool.not_false, Bool.not_true, List.isEmpty_iff, List.isEmpty_eq_false_iff, nil_iff, List.length_pos_iff, List.length_eq_zero_iff] at *
          try subst_vars
          simp_all <;> (intros; first | omega | (exfalso; omega))
        · first | exact HB4.out | exact HBW.out | ((repeat' (first | (with_reducible refine Below.setCell ?_ ?_ _) | (with_reducible refine Below.alloc ?_ ?_ _) | (with_reducible refine Below.drew ?_) | (with_reducible assumption) | (with_reducible exact Below.refl _ _) | (simp only [World.size_alloc, World.size_setCell, World.size_drew]; done) | (simp only [World.size_alloc, World.size_setCell, World.size_drew]; omega) | omega)))
    · go_enter Tryd.func79, Tryd.ntmps79
      go_wp2_with (first | (go_at_call 56; refine (holds_no 2 _ (by omega)).mono ?_; rintro e1 w1 ⟨rfl, rfl⟩) | (go_at_call 37; refine (numRight_any _ _ _ _ (by omega)).mono ?_; rintro e2 w2 ⟨rfl, hb2⟩; obtain ⟨hc, hz2, hbw⟩ := one_new hb2; have HBW := Lib.hid hbw; have hcc5 := hc.cell 5 _ rfl; have hcc6 := hc.cell 6 _ rfl; clear hb2 hc hbw; generalize hbN : numR _ _ _ = bN; have HBN := Lib.hid hbN; clear hbN) | (go_at_call 109; refine (HV.out _ (HT.out.below HBW.out HT.out.pos)).mono ?_; rintro e3 w3 ⟨rfl, rfl⟩) | (go_at_call 110; refine (HK.out _ (HT.out.below HBW.out HT.out.pos) (HR.out.below HBW.out (Nat.le_refl _))).mono ?_; rintro e4 w4 ⟨rfl, hb4⟩; have HB4 := Lib.hid (HBW.out.trans (hb4.mono HBW.out.size)); clear hb4))
      all_goals
        go_ret
        refine ⟨⟨_, rfl, ?_⟩, ?_⟩
        · skip
          rw [HP.out]
          unfold plainT validS
          have q1 := HBK.out
          have q2 := HBV.out
          try have q3 := HBN.out
          try clear HBN
          clear HP HBK HBV HK HV HR HT HB0 hll hlk hl hm hkl0 hkm0 hbb
          simp only [Bool.not_eq_eq_eq_not, Bool.not_false, Bool.not_true, List.isEmpty_iff, List.isEmpty_eq_false_iff, nil_iff, List.length_pos_iff, List.length_eq_zero_iff] at *
          try subst_vars
          simp_all <;> (intros; first | omega | (exfalso; omega))
        · first | exact HB4.out | exact HBW.out | ((repeat' (first | (with_reducible refine Below.setCell ?_ ?_ _) | (with_reducible refine Below.alloc ?_ ?_ _) | (with_reducible refine Below.drew ?_) | (with_reducible assumption) | (with_reducible exact Below.refl _ _) | (simp only [World.size_alloc, World.size_setCell, World.size_drew]; done) | (simp only [World.size_alloc, World.size_setCell, World.size_drew]; omega) | omega)))
    · go_enter Tryd.func79, Tryd.ntmps79
      go_wp2_with (first | (go_at_call 56; refine (holds_no 3 _ (by omega)).mono ?_; rintro e1 w1 ⟨rfl, rfl⟩) | (go_at_call 37; refine (numRight_any _ _ _ _ (by omega)).mono ?_; rintro e2 w2 ⟨rfl, hb2⟩; obtain ⟨hc, hz2, hbw⟩ := one_new hb2; have HBW := Lib.hid hbw; have hcc5 := hc.cell 5 _ rfl; have hcc6 := hc.cell 6 _ rfl; clear hb2 hc hbw; generalize hbN : numR _ _ _ = bN; have HBN := Lib.hid hbN; clear hbN) | (go_at_call 109; refine (HV.out _ (HT.out.below HBW.out HT.out.pos)).mono ?_; rintro e3 w3 ⟨rfl, rfl⟩) | (go_at_call 110; refine (HK.out _ (HT.out.below HBW.out HT.out.pos) (HR.out.below HBW.out (Nat.le_refl _))).mono ?_; rintro e4 w4 ⟨rfl, hb4⟩; have HB4 := Lib.hid (HBW.out.trans (hb4.mono HBW.out.size)); clear hb4))
      all_goals
        go_ret
        refine ⟨⟨_, rfl, ?_⟩, ?_⟩
        · skip
          rw [HP.out]
          unfold plainT validS
          have q1 := HBK.out
          have q2 := HBV.out
          try have q3 := HBN.out
          try clear HBN
          clear HP HBK HBV HK HV HR HT HB0 hll hlk hl hm hkl0 hkm0 hbb
          simp only [Bool.not_eq_eq_eq_not, Bool.not_false, Bool.not_true, List.isEmpty_iff, List.isEmpty_eq_false_iff, nil_iff, List.length_pos_iff, List.length_eq_zero_iff] at *
          try subst_vars
          simp_all <;> (intros; first | omega | (exfalso; omega))
        · first | exact HB4.out | exact HBW.out | ((repeat' (first | (with_reducible refine Below.setCell ?_ ?_ _) | (with_reducible refine Below.alloc ?_ ?_ _) | (with_reducible refine Below.drew ?_) | (with_reducible assumption) | (with_reducible exact Below.refl _ _) | (simp only [World.size_alloc, World.size_setCell, World.size_drew]; done) | (simp only [World.size_alloc, World.size_setCell, World.size_drew]; omega) | omega)))
    · go_enter Tryd.func79, Tryd.ntmps79
      go_wp2_with (first | (go_at_call 56; refine (holds_no 4 _ (by omega)).mono ?_; rintro e1 w1 ⟨rfl, rfl⟩) | (go_at_call 37; refine (numRight_any _ _ _ _ (by omega)).mono ?_; rintro e2 w2 ⟨rfl, hb2⟩; obtain ⟨hc, hz2, hbw⟩ := one_new hb2; have HBW := Lib.hid hbw; have hcc5 := hc.cell 5 _ rfl; have hcc6 := hc.cell 6 _ rfl; clear hb2 hc hbw; generalize hbN : numR _ _ _ = bN; have HBN := Lib.hid hbN; clear hbN) | (go_at_call 109; refine (HV.out _ (HT.out.below HBW.out HT.out.pos)).mono ?_; rintro e3 w3 ⟨rfl, rfl⟩) | (go_at_call 110; refine (HK.out _ (HT.out.below HBW.out HT.out.pos) (HR.out.below HBW.out (Nat.le_refl _))).mono ?_; rintro e4 w4 ⟨rfl, hb4⟩; have HB4 := Lib.hid (HBW.out.trans (hb4.mono HBW.out.size)); clear hb4))
      all_goals
        go_ret
        refine ⟨⟨_, rfl, ?_⟩, ?_⟩
        · skip
          rw [HP.out]
          unfold plainT validS
          have q1 := HBK.out
          have q2 := HBV.out
          try have q3 := HBN.out
          try clear HBN
          clear HP HBK HBV HK HV HR HT HB0 hll hlk hl hm hkl0 hkm0 hbb
          simp only [Bool.not_eq_eq_eq_not, Bool.not_false, Bool.not_true, List.isEmpty_iff, List.isEmpty_eq_false_iff, nil_iff, List.length_pos_iff, List.length_eq_zero_iff] at *
          try subst_vars
          simp_all <;> (intros; first | omega | (exfalso; omega))
        · first | exact HB4.out | exact HBW.out | ((repeat' (first | (with_reducible refine Below.setCell ?_ ?_ _) | (with_reducible refine Below.alloc ?_ ?_ _) | (with_reducible refine Below.drew ?_) | (with_reducible assumption) | (with_reducible exact Below.refl _ _) | (simp only [World.size_alloc, World.size_setCell, World.size_drew]; done) | (simp only [World.size_alloc, World.size_setCell, World.size_drew]; omega) | omega)))
    · go_enter Tryd.func79, Tryd.ntmps79
      go_wp2_with (first | (go_at_call 56; refine (holds_yes 5 _ (by omega)).mono ?_; rintro e1 w1 ⟨rfl, rfl⟩) | (go_at_call 37; refine (numRight_any _ _ _ _ (by omega)).mono ?_; rintro e2 w2 ⟨rfl, hb2⟩; obtain ⟨hc, hz2, hbw⟩ := one_new hb2; have HBW := Lib.hid hbw; have hcc5 := hc.cell 5 _ rfl; have hcc6 := hc.cell 6 _ rfl; clear hb2 hc hbw; generalize hbN : numR _ _ _ = bN; have HBN := Lib.hid hbN; clear hbN) | (go_at_call 109; refine (HV.out _ (HT.out.below HBW.out HT.out.pos)).mono ?_; rintro e3 w3 ⟨rfl, rfl⟩) | (go_at_call 110; refine (HK.out _ (HT.out.below HBW.out HT.out.pos) (HR.out.below HBW.out (Nat.le_refl _))).mono ?_; rintro e4 w4 ⟨rfl, hb4⟩; have HB4 := Lib.hid (HBW.out.trans (hb4.mono HBW.out.size)); clear hb4))
      all_goals
        go_ret
        refine ⟨⟨_, rfl, ?_⟩, ?_⟩
        · skip
          rw [HP.out]
          unfold plainT validS
          have q1 := HBK.out
          have q2 := HBV.out
          try have q3 := HBN.out
          try clear HBN
          clear HP HBK HBV HK HV HR HT HB0 hll hlk hl hm hkl0 hkm0 hbb
          simp only [Bool.not_eq_eq_eq_not, Bool.not_false, Bool.not_true, List.isEmpty_iff, List.isEmpty_eq_false_iff, nil_iff, List.length_pos_iff, List.length_eq_zero_iff] at *
          try subst_vars
          simp_all <;> (intros; first | omega | (exfalso; omega))
        · first | exact HB4.out | exact HBW.out | ((repeat' (first | (with_reducible refine Below.setCell ?_ ?_ _) | (with_reducible refine Below.alloc ?_ ?_ _) | (with_reducible refine Below.drew ?_) | (with_reducible assumption) | (with_reducible exact Below.refl _ _) | (simp only [World.size_alloc, World.size_setCell, World.size_drew]; done) | (simp only [World.size_alloc, World.size_setCell, World.size_drew]; omega) | omega)))
    · go_enter Tryd.func79, Tryd.ntmps79
      go_wp2_with (first | (go_at_call 56; refine (holds_yes 6 _ (by omega)).mono ?_; rintro e1 w1 ⟨rfl, rfl⟩) | (go_at_call 37; refine (numRight_any _ _ _ _ (by omega)).mono ?_; rintro e2 w2 ⟨rfl, hb2⟩; obtain ⟨hc, hz2, hbw⟩ := one_new hb2; have HBW := Lib.hid hbw; have hcc5 := hc.cell 5 _ rfl; have hcc6 := hc.cell 6 _ rfl; clear hb2 hc hbw; generalize hbN : numR _ _ _ = bN; have HBN := Lib.hid hbN; clear hbN) | (go_at_call 109; refine (HV.out _ (HT.out.below HBW.out HT.out.pos)).mono ?_; rintro e3 w3 ⟨rfl, rfl⟩) | (go_at_call 110; refine (HK.out _ (HT.out.below HBW.out HT.out.pos) (HR.out.below HBW.out (Nat.le_refl _))).mono ?_; rintro e4 w4 ⟨rfl, hb4⟩; have HB4 := Lib.hid (HBW.out.trans (hb4.mono HBW.out.size)); clear hb4))
      all_goals
        go_ret
        refine ⟨⟨_, rfl, ?_⟩, ?_⟩
        · skip
          rw [HP.out]
          unfold plainT validS
          have q1 := HBK.out
          have q2 := HBV.out
          try have q3 := HBN.out
          try clear HBN
          clear HP HBK HBV HK HV HR HT HB0 hll hlk hl hm hkl0 hkm0 hbb
          simp only [Bool.not_eq_eq_eq_not, Bool.not_false, Bool.not_true, List.isEmpty_iff, List.isEmpty_eq_false_iff, nil_iff, List.length_pos_iff, List.length_eq_zero_iff] at *
          try subst_vars
          simp_all <;> (intros; first | omega | (exfalso; omega))
        · first | exact HB4.out | exact HBW.out | ((repeat' (first | (with_reducible refine Below.setCell ?_ ?_ _) | (with_reducible refine Below.alloc ?_ ?_ _) | (with_reducible refine Below.drew ?_) | (with_reducible assumption) | (with_reducible exact Below.refl _ _) | (simp only [World.size_alloc, World.size_setCell, World.size_drew]; done) | (simp only [World.size_alloc, World.size_setCell, World.size_drew]; omega) | omega)))
end Go.Proofs.YtpcfhiipkbpmkaaDoor
