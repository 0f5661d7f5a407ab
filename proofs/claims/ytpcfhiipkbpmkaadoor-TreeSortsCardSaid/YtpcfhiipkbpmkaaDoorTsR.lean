/- The walk of the reference's own (layer 8). -/
import Derived.Test.YtpcfhiipkbpmkaaDoorTreR
import Derived.Test.YtpcfhiipkbpmkaaDoorTreC
import Derived.Test.YtpcfhiipkbpmkaaDoorNumB
import Derived.Test.YtpcfhiipkbpmkaaDoorUtfI
namespace Go.Proofs.YtpcfhiipkbpmkaaDoor
open Go.RowKit Go.Tab

theorem keysR_not {l : List ByteArray} {k : Nat} (h : k < l.length) {m : Nat} (hm : m < k) (he : l[m] = l[k]) : ¬ keysR l := fun hr => by
  have := List.getElem_inj (xs := l) (i := m) (j := k) (h₀ := by omega) (h₁ := h) hr.2
  have := this.1 he
  omega
theorem not_mem_snoc {l : List ByteArray} {x : ByteArray} {m : Nat} (h : m < l.length) (h1 : x ∉ l.take m) (h2 : l[m] ≠ x) : x ∉ l.take (m + 1) := fun hx => by
  rw [take_snoc' l m h, List.mem_append] at hx
  rcases hx with hx | hx
  · exact h1 hx
  · simp at hx; exact h2 hx.symm

set_option linter.unusedSimpArgs false in
set_option maxHeartbeats 4000000 in
set_option maxRecDepth 100000 in
theorem own_any (t : Tree) (hb : t.bulk ≤ 100000) (w : World) (cs : List Value) (hv : ValAt w t cs) : Calls Tryd.prog 80 #[valV cs] w (SameP (plainT t) w) := by
  cases t with
  | mk kind is neg d e s ks kids =>
  obtain ⟨p, hp⟩ : ∃ p, p = plainT (.mk kind is neg d e s ks kids) := ⟨_, rfl⟩
  rw [← hp]
  have HP := Lib.hid hp
  clear hp
  have hbb : 1 + d.size + s.size + ksBulk ks + bulkAll kids ≤ 100000 := by simp only [Tree.bulk] at hb; omega
  have hll := len_bulk kids
  have hlk := len_ks ks
  simp only [ValAt] at hv
  obtain ⟨kv, a, cap, rfl, hk, hl, hm, -, -⟩ := hv
  obtain ⟨ka, kc, rfl, hkl0, hkm0, -⟩ := hk.len
  unfold maxLen at hm hkm0
  have hV := fun W => rValid_any s W (by omega)
  obtain ⟨bV, hbV⟩ : ∃ b, b = (scan (bs s) 0).2.isNone := ⟨_, rfl⟩
  rw [← hbV] at hV
  have HBV := Lib.hid hbV
  clear hbV hb
  have HV := Lib.hid hV
  have HR := Lib.hid hk
  clear hV hk
  simp only [valV]
  have hb0 : Below w.heap.size w (w.alloc (.cells #[.int .i64 kind, .bool is, .bool neg, .string d, .int .i64 e, .string s, .slice ka ks.length kc, .slice a kids.length cap] 27)) := (Below.refl _ w).alloc (Nat.le_refl _) _
  have HB0 := Lib.hid hb0
  clear hb0
  by_cases hkind : kind < 1 ∨ (1 ≤ kind ∧ 6 < kind)
  · rcases hkind with hkind | hkind
    all_goals
      go_enter Tryd.func80, Tryd.ntmps80
      go_wp2_with fail
      go_ret
      refine ⟨⟨false, rfl, no_iff (fun h => ?_)⟩, HB0.out⟩
      rw [HP.out] at h
      unfold plainT at h
      omega
  · have hkk : kind = 1 ∨ kind = 2 ∨ kind = 3 ∨ kind = 4 ∨ kind = 5 ∨ kind = 6 := by omega
    clear hkind
    rcases hkk with rfl | rfl | rfl | rfl | rfl | rfl
    · rcases Nat.eq_zero_or_pos ks.length with hk0 | hk0
      · obtain rfl : ks = [] := List.length_eq_zero_iff.1 hk0
        clear hk0
        rcases Nat.eq_zero_or_pos kids.length with hs0 | hs0
        · obtain rfl : kids = [] := List.length_eq_zero_iff.1 hs0
          clear hs0
          go_enter Tryd.func80, Tryd.ntmps80
          go_wp2_with (first | (go_at_call 38; refine (rNumRight_any _ _ _ _ (by omega)).mono ?_; rintro e2 w2 ⟨rfl, hb2⟩; obtain ⟨hc, hz2, hbw⟩ := one_new hb2; have HBW := Lib.hid hbw; have hl2 := hc.lt; have hcc0 := hc.cell 0 _ rfl; have hcc4 := hc.cell 6 _ rfl; have hcc5 := hc.cell 5 _ rfl; have hcc7 := hc.cell 7 _ rfl; clear hb2 hbw; generalize hbN : numR _ _ _ = bN; have HBN := Lib.hid hbN; clear hbN) | (go_at_call 111; refine (HV.out _).mono ?_; rintro e3 w3 ⟨rfl, hb3⟩; have HC3 := Lib.hid (hc.below hb3 hl2); clear hcc0 hcc4 hcc5 hcc7; have hcc0 := HC3.out.cell 0 _ rfl; have hcc4 := HC3.out.cell 6 _ rfl; have hcc7 := HC3.out.cell 7 _ rfl; have HB3 := Lib.hid (HBW.out.trans (hb3.mono HBW.out.size)); clear hb3 hc))
          all_goals first | (go_ret; refine ⟨⟨_, rfl, ?_⟩, (by first | exact HB3.out | exact HBW.out | ((repeat' (first | (with_reducible refine Below.setCell ?_ ?_ _) | (with_reducible refine Below.alloc ?_ ?_ _) | (with_reducible refine Below.drew ?_) | (with_reducible assumption) | (with_reducible exact Below.refl _ _) | (simp only [World.size_alloc, World.size_setCell, World.size_drew]; done) | (simp only [World.size_alloc, World.size_setCell, World.size_drew]; omega) | omega))))⟩) | skip
          all_goals first | (show (_ ↔ _); rw [HP.out]; unfold plainT validS; have q1 := HBV.out; (try have q3 := HBN.out); (try clear HBN); clear HP HBV HV HR HB0 hll hlk hl hm hkl0 hkm0 hbb; simp only [Bool.not_eq_eq_eq_not, Bool.not_false, Bool.not_true, List.isEmpty_iff, List.isEmpty_eq_false_iff, nil_iff, List.length_pos_iff, List.length_eq_zero_iff] at *; (try subst_vars); (simp_all <;> (intros; first | omega | (exfalso; omega)))) | (show (_ ↔ _); rename_i h; rw [HP.out]; refine no_iff ?_; rintro ⟨-, -, -, q3, -⟩; rcases q3 with q3 | q3; (omega); (exact absurd q3 (by simpa [nil_iff] using h))) | (show (_ ↔ _); rename_i h; rw [HP.out]; refine no_iff ?_; rintro ⟨-, -, -, -, -, -, -, -, q8, -⟩; have q1 := HBV.out; unfold validS at q8; rw [← q1] at q8; rw [q8] at h; exact absurd h (by decide)) | skip
          all_goals
            go_loopw [3] (fun i wr => i = .int .i64 0 ∧ wr.cell? ⟨w.heap.size, 6, none⟩ = some (.slice ka 0 kc) ∧ Below w.heap.size w wr) (fun i _ => 1 - (intOf i).toNat)
            case atStart => exact ⟨rfl, hcc4, HB3.out⟩
            case round =>
              obtain ⟨rfl, hX, hbl⟩ := hrel
              have HBL := Lib.hid hbl
              clear hbl hcc0 hcc4 hcc7
              go_wp2_with fail
              go_ret
              refine ⟨⟨true, rfl, ?_⟩, HBL.out⟩
              have hkz : keysR [] := ⟨by simp, by simp⟩
              show (_ ↔ _)
              rw [HP.out]
              unfold plainT validS
              have q1 := HBV.out
              try have q3 := HBN.out
              try clear HBN
              clear HP HBV HV HR HB0 hll hlk hl hm hkl0 hkm0 hbb
              simp only [Bool.not_eq_eq_eq_not, Bool.not_false, Bool.not_true, List.isEmpty_iff, List.isEmpty_eq_false_iff, nil_iff, List.length_pos_iff, List.length_eq_zero_iff] at *
              try subst_vars
              simp_all <;> (intros; first | omega | (exfalso; omega))
        · skip
          go_enter Tryd.func80, Tryd.ntmps80
          go_wp2_with (first | (go_at_call 38; refine (rNumRight_any _ _ _ _ (by omega)).mono ?_; rintro e2 w2 ⟨rfl, hb2⟩; obtain ⟨hc, hz2, hbw⟩ := one_new hb2; have HBW := Lib.hid hbw; have hl2 := hc.lt; have hcc0 := hc.cell 0 _ rfl; have hcc4 := hc.cell 6 _ rfl; have hcc5 := hc.cell 5 _ rfl; have hcc7 := hc.cell 7 _ rfl; clear hb2 hbw; generalize hbN : numR _ _ _ = bN; have HBN := Lib.hid hbN; clear hbN) | (go_at_call 111; refine (HV.out _).mono ?_; rintro e3 w3 ⟨rfl, hb3⟩; have HC3 := Lib.hid (hc.below hb3 hl2); clear hcc0 hcc4 hcc5 hcc7; have hcc0 := HC3.out.cell 0 _ rfl; have hcc4 := HC3.out.cell 6 _ rfl; have hcc7 := HC3.out.cell 7 _ rfl; have HB3 := Lib.hid (HBW.out.trans (hb3.mono HBW.out.size)); clear hb3 hc))
          all_goals first | (go_ret; refine ⟨⟨_, rfl, ?_⟩, (by first | exact HB3.out | exact HBW.out | ((repeat' (first | (with_reducible refine Below.setCell ?_ ?_ _) | (with_reducible refine Below.alloc ?_ ?_ _) | (with_reducible refine Below.drew ?_) | (with_reducible assumption) | (with_reducible exact Below.refl _ _) | (simp only [World.size_alloc, World.size_setCell, World.size_drew]; done) | (simp only [World.size_alloc, World.size_setCell, World.size_drew]; omega) | omega))))⟩) | skip
          all_goals first | (show (_ ↔ _); rw [HP.out]; unfold plainT validS; have q1 := HBV.out; (try have q3 := HBN.out); (try clear HBN); clear HP HBV HV HR HB0 hll hlk hl hm hkl0 hkm0 hbb; simp only [Bool.not_eq_eq_eq_not, Bool.not_false, Bool.not_true, List.isEmpty_iff, List.isEmpty_eq_false_iff, nil_iff, List.length_pos_iff, List.length_eq_zero_iff] at *; (try subst_vars); (simp_all <;> (intros; first | omega | (exfalso; omega)))) | (show (_ ↔ _); rename_i h; rw [HP.out]; refine no_iff ?_; rintro ⟨-, -, -, q3, -⟩; rcases q3 with q3 | q3; (omega); (exact absurd q3 (by simpa [nil_iff] using h))) | (show (_ ↔ _); rename_i h; rw [HP.out]; refine no_iff ?_; rintro ⟨-, -, -, -, -, -, -, -, q8, -⟩; have q1 := HBV.out; unfold validS at q8; rw [← q1] at q8; rw [q8] at h; exact absurd h (by decide)) | skip
      · rcases Nat.eq_zero_or_pos kids.length with hs0 | hs0
        all_goals
          go_enter Tryd.func80, Tryd.ntmps80
          go_wp2_with (first | (go_at_call 38; refine (rNumRight_any _ _ _ _ (by omega)).mono ?_; rintro e2 w2 ⟨rfl, hb2⟩; obtain ⟨hc, hz2, hbw⟩ := one_new hb2; have HBW := Lib.hid hbw; have hl2 := hc.lt; have hcc0 := hc.cell 0 _ rfl; have hcc4 := hc.cell 6 _ rfl; have hcc5 := hc.cell 5 _ rfl; have hcc7 := hc.cell 7 _ rfl; clear hb2 hbw; generalize hbN : numR _ _ _ = bN; have HBN := Lib.hid hbN; clear hbN) | (go_at_call 111; refine (HV.out _).mono ?_; rintro e3 w3 ⟨rfl, hb3⟩; have HC3 := Lib.hid (hc.below hb3 hl2); clear hcc0 hcc4 hcc5 hcc7; have hcc0 := HC3.out.cell 0 _ rfl; have hcc4 := HC3.out.cell 6 _ rfl; have hcc7 := HC3.out.cell 7 _ rfl; have HB3 := Lib.hid (HBW.out.trans (hb3.mono HBW.out.size)); clear hb3 hc))
          all_goals first | (go_ret; refine ⟨⟨_, rfl, ?_⟩, (by first | exact HB3.out | exact HBW.out | ((repeat' (first | (with_reducible refine Below.setCell ?_ ?_ _) | (with_reducible refine Below.alloc ?_ ?_ _) | (with_reducible refine Below.drew ?_) | (with_reducible assumption) | (with_reducible exact Below.refl _ _) | (simp only [World.size_alloc, World.size_setCell, World.size_drew]; done) | (simp only [World.size_alloc, World.size_setCell, World.size_drew]; omega) | omega))))⟩) | skip
          all_goals
            show (_ ↔ _)
            rw [HP.out]
            unfold plainT validS
            have q1 := HBV.out
            try have q3 := HBN.out
            try clear HBN
            clear HP HBV HV HR HB0 hll hlk hl hm hkl0 hkm0 hbb
            simp only [Bool.not_eq_eq_eq_not, Bool.not_false, Bool.not_true, List.isEmpty_iff, List.isEmpty_eq_false_iff, nil_iff, List.length_pos_iff, List.length_eq_zero_iff] at *
            try subst_vars
            simp_all <;> (intros; first | omega | (exfalso; omega))
    · rcases Nat.eq_zero_or_pos ks.length with hk0 | hk0
      · obtain rfl : ks = [] := List.length_eq_zero_iff.1 hk0
        clear hk0
        rcases Nat.eq_zero_or_pos kids.length with hs0 | hs0
        · obtain rfl : kids = [] := List.length_eq_zero_iff.1 hs0
          clear hs0
          go_enter Tryd.func80, Tryd.ntmps80
          go_wp2_with (first | (go_at_call 38; refine (rNumRight_any _ _ _ _ (by omega)).mono ?_; rintro e2 w2 ⟨rfl, hb2⟩; obtain ⟨hc, hz2, hbw⟩ := one_new hb2; have HBW := Lib.hid hbw; have hl2 := hc.lt; have hcc0 := hc.cell 0 _ rfl; have hcc4 := hc.cell 6 _ rfl; have hcc5 := hc.cell 5 _ rfl; have hcc7 := hc.cell 7 _ rfl; clear hb2 hbw; generalize hbN : numR _ _ _ = bN; have HBN := Lib.hid hbN; clear hbN) | (go_at_call 111; refine (HV.out _).mono ?_; rintro e3 w3 ⟨rfl, hb3⟩; have HC3 := Lib.hid (hc.below hb3 hl2); clear hcc0 hcc4 hcc5 hcc7; have hcc0 := HC3.out.cell 0 _ rfl; have hcc4 := HC3.out.cell 6 _ rfl; have hcc7 := HC3.out.cell 7 _ rfl; have HB3 := Lib.hid (HBW.out.trans (hb3.mono HBW.out.size)); clear hb3 hc))
          all_goals first | (go_ret; refine ⟨⟨_, rfl, ?_⟩, (by first | exact HB3.out | exact HBW.out | ((repeat' (first | (with_reducible refine Below.setCell ?_ ?_ _) | (with_reducible refine Below.alloc ?_ ?_ _) | (with_reducible refine Below.drew ?_) | (with_reducible assumption) | (with_reducible exact Below.refl _ _) | (simp only [World.size_alloc, World.size_setCell, World.size_drew]; done) | (simp only [World.size_alloc, World.size_setCell, World.size_drew]; omega) | omega))))⟩) | skip
          all_goals first | (show (_ ↔ _); rw [HP.out]; unfold plainT validS; have q1 := HBV.out; (try have q3 := HBN.out); (try clear HBN); clear HP HBV HV HR HB0 hll hlk hl hm hkl0 hkm0 hbb; simp only [Bool.not_eq_eq_eq_not, Bool.not_false, Bool.not_true, List.isEmpty_iff, List.isEmpty_eq_false_iff, nil_iff, List.length_pos_iff, List.length_eq_zero_iff] at *; (try subst_vars); (simp_all <;> (intros; first | omega | (exfalso; omega)))) | (show (_ ↔ _); rename_i h; rw [HP.out]; refine no_iff ?_; rintro ⟨-, -, -, q3, -⟩; rcases q3 with q3 | q3; (omega); (exact absurd q3 (by simpa [nil_iff] using h))) | (show (_ ↔ _); rename_i h; rw [HP.out]; refine no_iff ?_; rintro ⟨-, -, -, -, -, -, -, -, q8, -⟩; have q1 := HBV.out; unfold validS at q8; rw [← q1] at q8; rw [q8] at h; exact absurd h (by decide)) | skip
          all_goals
            go_loopw [3] (fun i wr => i = .int .i64 0 ∧ wr.cell? ⟨w.heap.size, 6, none⟩ = some (.slice ka 0 kc) ∧ Below w.heap.size w wr) (fun i _ => 1 - (intOf i).toNat)
            case atStart => exact ⟨rfl, hcc4, HB3.out⟩
            case round =>
              obtain ⟨rfl, hX, hbl⟩ := hrel
              have HBL := Lib.hid hbl
              clear hbl hcc0 hcc4 hcc7
              go_wp2_with fail
              go_ret
              refine ⟨⟨true, rfl, ?_⟩, HBL.out⟩
              have hkz : keysR [] := ⟨by simp, by simp⟩
              show (_ ↔ _)
              rw [HP.out]
              unfold plainT validS
              have q1 := HBV.out
              try have q3 := HBN.out
              try clear HBN
              clear HP HBV HV HR HB0 hll hlk hl hm hkl0 hkm0 hbb
              simp only [Bool.not_eq_eq_eq_not, Bool.not_false, Bool.not_true, List.isEmpty_iff, List.isEmpty_eq_false_iff, nil_iff, List.length_pos_iff, List.length_eq_zero_iff] at *
              try subst_vars
              simp_all <;> (intros; first | omega | (exfalso; omega))
        · skip
          go_enter Tryd.func80, Tryd.ntmps80
          go_wp2_with (first | (go_at_call 38; refine (rNumRight_any _ _ _ _ (by omega)).mono ?_; rintro e2 w2 ⟨rfl, hb2⟩; obtain ⟨hc, hz2, hbw⟩ := one_new hb2; have HBW := Lib.hid hbw; have hl2 := hc.lt; have hcc0 := hc.cell 0 _ rfl; have hcc4 := hc.cell 6 _ rfl; have hcc5 := hc.cell 5 _ rfl; have hcc7 := hc.cell 7 _ rfl; clear hb2 hbw; generalize hbN : numR _ _ _ = bN; have HBN := Lib.hid hbN; clear hbN) | (go_at_call 111; refine (HV.out _).mono ?_; rintro e3 w3 ⟨rfl, hb3⟩; have HC3 := Lib.hid (hc.below hb3 hl2); clear hcc0 hcc4 hcc5 hcc7; have hcc0 := HC3.out.cell 0 _ rfl; have hcc4 := HC3.out.cell 6 _ rfl; have hcc7 := HC3.out.cell 7 _ rfl; have HB3 := Lib.hid (HBW.out.trans (hb3.mono HBW.out.size)); clear hb3 hc))
          all_goals first | (go_ret; refine ⟨⟨_, rfl, ?_⟩, (by first | exact HB3.out | exact HBW.out | ((repeat' (first | (with_reducible refine Below.setCell ?_ ?_ _) | (with_reducible refine Below.alloc ?_ ?_ _) | (with_reducible refine Below.drew ?_) | (with_reducible assumption) | (with_reducible exact Below.refl _ _) | (simp only [World.size_alloc, World.size_setCell, World.size_drew]; done) | (simp only [World.size_alloc, World.size_setCell, World.size_drew]; omega) | omega))))⟩) | skip
          all_goals first | (show (_ ↔ _); rw [HP.out]; unfold plainT validS; have q1 := HBV.out; (try have q3 := HBN.out); (try clear HBN); clear HP HBV HV HR HB0 hll hlk hl hm hkl0 hkm0 hbb; simp only [Bool.not_eq_eq_eq_not, Bool.not_false, Bool.not_true, List.isEmpty_iff, List.isEmpty_eq_false_iff, nil_iff, List.length_pos_iff, List.length_eq_zero_iff] at *; (try subst_vars); (simp_all <;> (intros; first | omega | (exfalso; omega)))) | (show (_ ↔ _); rename_i h; rw [HP.out]; refine no_iff ?_; rintro ⟨-, -, -, q3, -⟩; rcases q3 with q3 | q3; (omega); (exact absurd q3 (by simpa [nil_iff] using h))) | (show (_ ↔ _); rename_i h; rw [HP.out]; refine no_iff ?_; rintro ⟨-, -, -, -, -, -, -, -, q8, -⟩; have q1 := HBV.out; unfold validS at q8; rw [← q1] at q8; rw [q8] at h; exact absurd h (by decide)) | skip
      · rcases Nat.eq_zero_or_pos kids.length with hs0 | hs0
        all_goals
          go_enter Tryd.func80, Tryd.ntmps80
          go_wp2_with (first | (go_at_call 38; refine (rNumRight_any _ _ _ _ (by omega)).mono ?_; rintro e2 w2 ⟨rfl, hb2⟩; obtain ⟨hc, hz2, hbw⟩ := one_new hb2; have HBW := Lib.hid hbw; have hl2 := hc.lt; have hcc0 := hc.cell 0 _ rfl; have hcc4 := hc.cell 6 _ rfl; have hcc5 := hc.cell 5 _ rfl; have hcc7 := hc.cell 7 _ rfl; clear hb2 hbw; generalize hbN : numR _ _ _ = bN; have HBN := Lib.hid hbN; clear hbN) | (go_at_call 111; refine (HV.out _).mono ?_; rintro e3 w3 ⟨rfl, hb3⟩; have HC3 := Lib.hid (hc.below hb3 hl2); clear hcc0 hcc4 hcc5 hcc7; have hcc0 := HC3.out.cell 0 _ rfl; have hcc4 := HC3.out.cell 6 _ rfl; have hcc7 := HC3.out.cell 7 _ rfl; have HB3 := Lib.hid (HBW.out.trans (hb3.mono HBW.out.size)); clear hb3 hc))
          all_goals first | (go_ret; refine ⟨⟨_, rfl, ?_⟩, (by first | exact HB3.out | exact HBW.out | ((repeat' (first | (with_reducible refine Below.setCell ?_ ?_ _) | (with_reducible refine Below.alloc ?_ ?_ _) | (with_reducible refine Below.drew ?_) | (with_reducible assumption) | (with_reducible exact Below.refl _ _) | (simp only [World.size_alloc, World.size_setCell, World.size_drew]; done) | (simp only [World.size_alloc, World.size_setCell, World.size_drew]; omega) | omega))))⟩) | skip
          all_goals
            show (_ ↔ _)
            rw [HP.out]
            unfold plainT validS
            have q1 := HBV.out
            try have q3 := HBN.out
            try clear HBN
            clear HP HBV HV HR HB0 hll hlk hl hm hkl0 hkm0 hbb
            simp only [Bool.not_eq_eq_eq_not, Bool.not_false, Bool.not_true, List.isEmpty_iff, List.isEmpty_eq_false_iff, nil_iff, List.length_pos_iff, List.length_eq_zero_iff] at *
            try subst_vars
            simp_all <;> (intros; first | omega | (exfalso; omega))
    · rcases Nat.eq_zero_or_pos ks.length with hk0 | hk0
      · obtain rfl : ks = [] := List.length_eq_zero_iff.1 hk0
        clear hk0
        rcases Nat.eq_zero_or_pos kids.length with hs0 | hs0
        · obtain rfl : kids = [] := List.length_eq_zero_iff.1 hs0
          clear hs0
          go_enter Tryd.func80, Tryd.ntmps80
          go_wp2_with (first | (go_at_call 38; refine (rNumRight_any _ _ _ _ (by omega)).mono ?_; rintro e2 w2 ⟨rfl, hb2⟩; obtain ⟨hc, hz2, hbw⟩ := one_new hb2; have HBW := Lib.hid hbw; have hl2 := hc.lt; have hcc0 := hc.cell 0 _ rfl; have hcc4 := hc.cell 6 _ rfl; have hcc5 := hc.cell 5 _ rfl; have hcc7 := hc.cell 7 _ rfl; clear hb2 hbw; generalize hbN : numR _ _ _ = bN; have HBN := Lib.hid hbN; clear hbN) | (go_at_call 111; refine (HV.out _).mono ?_; rintro e3 w3 ⟨rfl, hb3⟩; have HC3 := Lib.hid (hc.below hb3 hl2); clear hcc0 hcc4 hcc5 hcc7; have hcc0 := HC3.out.cell 0 _ rfl; have hcc4 := HC3.out.cell 6 _ rfl; have hcc7 := HC3.out.cell 7 _ rfl; have HB3 := Lib.hid (HBW.out.trans (hb3.mono HBW.out.size)); clear hb3 hc))
          all_goals first | (go_ret; refine ⟨⟨_, rfl, ?_⟩, (by first | exact HB3.out | exact HBW.out | ((repeat' (first | (with_reducible refine Below.setCell ?_ ?_ _) | (with_reducible refine Below.alloc ?_ ?_ _) | (with_reducible refine Below.drew ?_) | (with_reducible assumption) | (with_reducible exact Below.refl _ _) | (simp only [World.size_alloc, World.size_setCell, World.size_drew]; done) | (simp only [World.size_alloc, World.size_setCell, World.size_drew]; omega) | omega))))⟩) | skip
          all_goals first | (show (_ ↔ _); rw [HP.out]; unfold plainT validS; have q1 := HBV.out; (try have q3 := HBN.out); (try clear HBN); clear HP HBV HV HR HB0 hll hlk hl hm hkl0 hkm0 hbb; simp only [Bool.not_eq_eq_eq_not, Bool.not_false, Bool.not_true, List.isEmpty_iff, List.isEmpty_eq_false_iff, nil_iff, List.length_pos_iff, List.length_eq_zero_iff] at *; (try subst_vars); (simp_all <;> (intros; first | omega | (exfalso; omega)))) | (show (_ ↔ _); rename_i h; rw [HP.out]; refine no_iff ?_; rintro ⟨-, -, -, q3, -⟩; rcases q3 with q3 | q3; (omega); (exact absurd q3 (by simpa [nil_iff] using h))) | (show (_ ↔ _); rename_i h; rw [HP.out]; refine no_iff ?_; rintro ⟨-, -, -, -, -, -, -, -, q8, -⟩; have q1 := HBV.out; unfold validS at q8; rw [← q1] at q8; rw [q8] at h; exact absurd h (by decide)) | skip
          all_goals
            go_loopw [3] (fun i wr => i = .int .i64 0 ∧ wr.cell? ⟨w.heap.size, 6, none⟩ = some (.slice ka 0 kc) ∧ Below w.heap.size w wr) (fun i _ => 1 - (intOf i).toNat)
            case atStart => exact ⟨rfl, hcc4, HB3.out⟩
            case round =>
              obtain ⟨rfl, hX, hbl⟩ := hrel
              have HBL := Lib.hid hbl
              clear hbl hcc0 hcc4 hcc7
              go_wp2_with fail
              go_ret
              refine ⟨⟨true, rfl, ?_⟩, HBL.out⟩
              have hkz : keysR [] := ⟨by simp, by simp⟩
              show (_ ↔ _)
              rw [HP.out]
              unfold plainT validS
              have q1 := HBV.out
              try have q3 := HBN.out
              try clear HBN
              clear HP HBV HV HR HB0 hll hlk hl hm hkl0 hkm0 hbb
              simp only [Bool.not_eq_eq_eq_not, Bool.not_false, Bool.not_true, List.isEmpty_iff, List.isEmpty_eq_false_iff, nil_iff, List.length_pos_iff, List.length_eq_zero_iff] at *
              try subst_vars
              simp_all <;> (intros; first | omega | (exfalso; omega))
        · skip
          go_enter Tryd.func80, Tryd.ntmps80
          go_wp2_with (first | (go_at_call 38; refine (rNumRight_any _ _ _ _ (by omega)).mono ?_; rintro e2 w2 ⟨rfl, hb2⟩; obtain ⟨hc, hz2, hbw⟩ := one_new hb2; have HBW := Lib.hid hbw; have hl2 := hc.lt; have hcc0 := hc.cell 0 _ rfl; have hcc4 := hc.cell 6 _ rfl; have hcc5 := hc.cell 5 _ rfl; have hcc7 := hc.cell 7 _ rfl; clear hb2 hbw; generalize hbN : numR _ _ _ = bN; have HBN := Lib.hid hbN; clear hbN) | (go_at_call 111; refine (HV.out _).mono ?_; rintro e3 w3 ⟨rfl, hb3⟩; have HC3 := Lib.hid (hc.below hb3 hl2); clear hcc0 hcc4 hcc5 hcc7; have hcc0 := HC3.out.cell 0 _ rfl; have hcc4 := HC3.out.cell 6 _ rfl; have hcc7 := HC3.out.cell 7 _ rfl; have HB3 := Lib.hid (HBW.out.trans (hb3.mono HBW.out.size)); clear hb3 hc))
          all_goals first | (go_ret; refine ⟨⟨_, rfl, ?_⟩, (by first | exact HB3.out | exact HBW.out | ((repeat' (first | (with_reducible refine Below.setCell ?_ ?_ _) | (with_reducible refine Below.alloc ?_ ?_ _) | (with_reducible refine Below.drew ?_) | (with_reducible assumption) | (with_reducible exact Below.refl _ _) | (simp only [World.size_alloc, World.size_setCell, World.size_drew]; done) | (simp only [World.size_alloc, World.size_setCell, World.size_drew]; omega) | omega))))⟩) | skip
          all_goals first | (show (_ ↔ _); rw [HP.out]; unfold plainT validS; have q1 := HBV.out; (try have q3 := HBN.out); (try clear HBN); clear HP HBV HV HR HB0 hll hlk hl hm hkl0 hkm0 hbb; simp only [Bool.not_eq_eq_eq_not, Bool.not_false, Bool.not_true, List.isEmpty_iff, List.isEmpty_eq_false_iff, nil_iff, List.length_pos_iff, List.length_eq_zero_iff] at *; (try subst_vars); (simp_all <;> (intros; first | omega | (exfalso; omega)))) | (show (_ ↔ _); rename_i h; rw [HP.out]; refine no_iff ?_; rintro ⟨-, -, -, q3, -⟩; rcases q3 with q3 | q3; (omega); (exact absurd q3 (by simpa [nil_iff] using h))) | (show (_ ↔ _); rename_i h; rw [HP.out]; refine no_iff ?_; rintro ⟨-, -, -, -, -, -, -, -, q8, -⟩; have q1 := HBV.out; unfold validS at q8; rw [← q1] at q8; rw [q8] at h; exact absurd h (by decide)) | skip
      · rcases Nat.eq_zero_or_pos kids.length with hs0 | hs0
        all_goals
          go_enter Tryd.func80, Tryd.ntmps80
          go_wp2_with (first | (go_at_call 38; refine (rNumRight_any _ _ _ _ (by omega)).mono ?_; rintro e2 w2 ⟨rfl, hb2⟩; obtain ⟨hc, hz2, hbw⟩ := one_new hb2; have HBW := Lib.hid hbw; have hl2 := hc.lt; have hcc0 := hc.cell 0 _ rfl; have hcc4 := hc.cell 6 _ rfl; have hcc5 := hc.cell 5 _ rfl; have hcc7 := hc.cell 7 _ rfl; clear hb2 hbw; generalize hbN : numR _ _ _ = bN; have HBN := Lib.hid hbN; clear hbN) | (go_at_call 111; refine (HV.out _).mono ?_; rintro e3 w3 ⟨rfl, hb3⟩; have HC3 := Lib.hid (hc.below hb3 hl2); clear hcc0 hcc4 hcc5 hcc7; have hcc0 := HC3.out.cell 0 _ rfl; have hcc4 := HC3.out.cell 6 _ rfl; have hcc7 := HC3.out.cell 7 _ rfl; have HB3 := Lib.hid (HBW.out.trans (hb3.mono HBW.out.size)); clear hb3 hc))
          all_goals first | (go_ret; refine ⟨⟨_, rfl, ?_⟩, (by first | exact HB3.out | exact HBW.out | ((repeat' (first | (with_reducible refine Below.setCell ?_ ?_ _) | (with_reducible refine Below.alloc ?_ ?_ _) | (with_reducible refine Below.drew ?_) | (with_reducible assumption) | (with_reducible exact Below.refl _ _) | (simp only [World.size_alloc, World.size_setCell, World.size_drew]; done) | (simp only [World.size_alloc, World.size_setCell, World.size_drew]; omega) | omega))))⟩) | skip
          all_goals
            show (_ ↔ _)
            rw [HP.out]
            unfold plainT validS
            have q1 := HBV.out
            try have q3 := HBN.out
            try clear HBN
            clear HP HBV HV HR HB0 hll hlk hl hm hkl0 hkm0 hbb
            simp only [Bool.not_eq_eq_eq_not, Bool.not_false, Bool.not_true, List.isEmpty_iff, List.isEmpty_eq_false_iff, nil_iff, List.length_pos_iff, List.length_eq_zero_iff] at *
            try subst_vars
            simp_all <;> (intros; first | omega | (exfalso; omega))
    · rcases Nat.eq_zero_or_pos ks.length with hk0 | hk0
      · obtain rfl : ks = [] := List.length_eq_zero_iff.1 hk0
        clear hk0
        rcases Nat.eq_zero_or_pos kids.length with hs0 | hs0
        · obtain rfl : kids = [] := List.length_eq_zero_iff.1 hs0
          clear hs0
          go_enter Tryd.func80, Tryd.ntmps80
          go_wp2_with (first | (go_at_call 38; refine (rNumRight_any _ _ _ _ (by omega)).mono ?_; rintro e2 w2 ⟨rfl, hb2⟩; obtain ⟨hc, hz2, hbw⟩ := one_new hb2; have HBW := Lib.hid hbw; have hl2 := hc.lt; have hcc0 := hc.cell 0 _ rfl; have hcc4 := hc.cell 6 _ rfl; have hcc5 := hc.cell 5 _ rfl; have hcc7 := hc.cell 7 _ rfl; clear hb2 hbw; generalize hbN : numR _ _ _ = bN; have HBN := Lib.hid hbN; clear hbN) | (go_at_call 111; refine (HV.out _).mono ?_; rintro e3 w3 ⟨rfl, hb3⟩; have HC3 := Lib.hid (hc.below hb3 hl2); clear hcc0 hcc4 hcc5 hcc7; have hcc0 := HC3.out.cell 0 _ rfl; have hcc4 := HC3.out.cell 6 _ rfl; have hcc7 := HC3.out.cell 7 _ rfl; have HB3 := Lib.hid (HBW.out.trans (hb3.mono HBW.out.size)); clear hb3 hc))
          all_goals first | (go_ret; refine ⟨⟨_, rfl, ?_⟩, (by first | exact HB3.out | exact HBW.out | ((repeat' (first | (with_reducible refine Below.setCell ?_ ?_ _) | (with_reducible refine Below.alloc ?_ ?_ _) | (with_reducible refine Below.drew ?_) | (with_reducible assumption) | (with_reducible exact Below.refl _ _) | (simp only [World.size_alloc, World.size_setCell, World.size_drew]; done) | (simp only [World.size_alloc, World.size_setCell, World.size_drew]; omega) | omega))))⟩) | skip
          all_goals first | (show (_ ↔ _); rw [HP.out]; unfold plainT validS; have q1 := HBV.out; (try have q3 := HBN.out); (try clear HBN); clear HP HBV HV HR HB0 hll hlk hl hm hkl0 hkm0 hbb; simp only [Bool.not_eq_eq_eq_not, Bool.not_false, Bool.not_true, List.isEmpty_iff, List.isEmpty_eq_false_iff, nil_iff, List.length_pos_iff, List.length_eq_zero_iff] at *; (try subst_vars); (simp_all <;> (intros; first | omega | (exfalso; omega)))) | (show (_ ↔ _); rename_i h; rw [HP.out]; refine no_iff ?_; rintro ⟨-, -, -, q3, -⟩; rcases q3 with q3 | q3; (omega); (exact absurd q3 (by simpa [nil_iff] using h))) | (show (_ ↔ _); rename_i h; rw [HP.out]; refine no_iff ?_; rintro ⟨-, -, -, -, -, -, -, -, q8, -⟩; have q1 := HBV.out; unfold validS at q8; rw [← q1] at q8; rw [q8] at h; exact absurd h (by decide)) | skip
          all_goals
            go_loopw [3] (fun i wr => i = .int .i64 0 ∧ wr.cell? ⟨w.heap.size, 6, none⟩ = some (.slice ka 0 kc) ∧ Below w.heap.size w wr) (fun i _ => 1 - (intOf i).toNat)
            case atStart => exact ⟨rfl, hcc4, HB3.out⟩
            case round =>
              obtain ⟨rfl, hX, hbl⟩ := hrel
              have HBL := Lib.hid hbl
              clear hbl hcc0 hcc4 hcc7
              go_wp2_with fail
              go_ret
              refine ⟨⟨true, rfl, ?_⟩, HBL.out⟩
              have hkz : keysR [] := ⟨by simp, by simp⟩
              show (_ ↔ _)
              rw [HP.out]
              unfold plainT validS
              have q1 := HBV.out
              try have q3 := HBN.out
              try clear HBN
              clear HP HBV HV HR HB0 hll hlk hl hm hkl0 hkm0 hbb
              simp only [Bool.not_eq_eq_eq_not, Bool.not_false, Bool.not_true, List.isEmpty_iff, List.isEmpty_eq_false_iff, nil_iff, List.length_pos_iff, List.length_eq_zero_iff] at *
              try subst_vars
              simp_all <;> (intros; first | omega | (exfalso; omega))
        · skip
          go_enter Tryd.func80, Tryd.ntmps80
          go_wp2_with (first | (go_at_call 38; refine (rNumRight_any _ _ _ _ (by omega)).mono ?_; rintro e2 w2 ⟨rfl, hb2⟩; obtain ⟨hc, hz2, hbw⟩ := one_new hb2; have HBW := Lib.hid hbw; have hl2 := hc.lt; have hcc0 := hc.cell 0 _ rfl; have hcc4 := hc.cell 6 _ rfl; have hcc5 := hc.cell 5 _ rfl; have hcc7 := hc.cell 7 _ rfl; clear hb2 hbw; generalize hbN : numR _ _ _ = bN; have HBN := Lib.hid hbN; clear hbN) | (go_at_call 111; refine (HV.out _).mono ?_; rintro e3 w3 ⟨rfl, hb3⟩; have HC3 := Lib.hid (hc.below hb3 hl2); clear hcc0 hcc4 hcc5 hcc7; have hcc0 := HC3.out.cell 0 _ rfl; have hcc4 := HC3.out.cell 6 _ rfl; have hcc7 := HC3.out.cell 7 _ rfl; have HB3 := Lib.hid (HBW.out.trans (hb3.mono HBW.out.size)); clear hb3 hc))
          all_goals first | (go_ret; refine ⟨⟨_, rfl, ?_⟩, (by first | exact HB3.out | exact HBW.out | ((repeat' (first | (with_reducible refine Below.setCell ?_ ?_ _) | (with_reducible refine Below.alloc ?_ ?_ _) | (with_reducible refine Below.drew ?_) | (with_reducible assumption) | (with_reducible exact Below.refl _ _) | (simp only [World.size_alloc, World.size_setCell, World.size_drew]; done) | (simp only [World.size_alloc, World.size_setCell, World.size_drew]; omega) | omega))))⟩) | skip
          all_goals first | (show (_ ↔ _); rw [HP.out]; unfold plainT validS; have q1 := HBV.out; (try have q3 := HBN.out); (try clear HBN); clear HP HBV HV HR HB0 hll hlk hl hm hkl0 hkm0 hbb; simp only [Bool.not_eq_eq_eq_not, Bool.not_false, Bool.not_true, List.isEmpty_iff, List.isEmpty_eq_false_iff, nil_iff, List.length_pos_iff, List.length_eq_zero_iff] at *; (try subst_vars); (simp_all <;> (intros; first | omega | (exfalso; omega)))) | (show (_ ↔ _); rename_i h; rw [HP.out]; refine no_iff ?_; rintro ⟨-, -, -, q3, -⟩; rcases q3 with q3 | q3; (omega); (exact absurd q3 (by simpa [nil_iff] using h))) | (show (_ ↔ _); rename_i h; rw [HP.out]; refine no_iff ?_; rintro ⟨-, -, -, -, -, -, -, -, q8, -⟩; have q1 := HBV.out; unfold validS at q8; rw [← q1] at q8; rw [q8] at h; exact absurd h (by decide)) | skip
      · rcases Nat.eq_zero_or_pos kids.length with hs0 | hs0
        all_goals
          go_enter Tryd.func80, Tryd.ntmps80
          go_wp2_with (first | (go_at_call 38; refine (rNumRight_any _ _ _ _ (by omega)).mono ?_; rintro e2 w2 ⟨rfl, hb2⟩; obtain ⟨hc, hz2, hbw⟩ := one_new hb2; have HBW := Lib.hid hbw; have hl2 := hc.lt; have hcc0 := hc.cell 0 _ rfl; have hcc4 := hc.cell 6 _ rfl; have hcc5 := hc.cell 5 _ rfl; have hcc7 := hc.cell 7 _ rfl; clear hb2 hbw; generalize hbN : numR _ _ _ = bN; have HBN := Lib.hid hbN; clear hbN) | (go_at_call 111; refine (HV.out _).mono ?_; rintro e3 w3 ⟨rfl, hb3⟩; have HC3 := Lib.hid (hc.below hb3 hl2); clear hcc0 hcc4 hcc5 hcc7; have hcc0 := HC3.out.cell 0 _ rfl; have hcc4 := HC3.out.cell 6 _ rfl; have hcc7 := HC3.out.cell 7 _ rfl; have HB3 := Lib.hid (HBW.out.trans (hb3.mono HBW.out.size)); clear hb3 hc))
          all_goals first | (go_ret; refine ⟨⟨_, rfl, ?_⟩, (by first | exact HB3.out | exact HBW.out | ((repeat' (first | (with_reducible refine Below.setCell ?_ ?_ _) | (with_reducible refine Below.alloc ?_ ?_ _) | (with_reducible refine Below.drew ?_) | (with_reducible assumption) | (with_reducible exact Below.refl _ _) | (simp only [World.size_alloc, World.size_setCell, World.size_drew]; done) | (simp only [World.size_alloc, World.size_setCell, World.size_drew]; omega) | omega))))⟩) | skip
          all_goals
            show (_ ↔ _)
            rw [HP.out]
            unfold plainT validS
            have q1 := HBV.out
            try have q3 := HBN.out
            try clear HBN
            clear HP HBV HV HR HB0 hll hlk hl hm hkl0 hkm0 hbb
            simp only [Bool.not_eq_eq_eq_not, Bool.not_false, Bool.not_true, List.isEmpty_iff, List.isEmpty_eq_false_iff, nil_iff, List.length_pos_iff, List.length_eq_zero_iff] at *
            try subst_vars
            simp_all <;> (intros; first | omega | (exfalso; omega))
    · rcases Nat.eq_zero_or_pos ks.length with hk0 | hk0
      · obtain rfl : ks = [] := List.length_eq_zero_iff.1 hk0
        clear hk0
        rcases Nat.eq_zero_or_pos kids.length with hs0 | hs0
        · obtain rfl : kids = [] := List.length_eq_zero_iff.1 hs0
          clear hs0
          go_enter Tryd.func80, Tryd.ntmps80
          go_wp2_with (first | (go_at_call 38; refine (rNumRight_any _ _ _ _ (by omega)).mono ?_; rintro e2 w2 ⟨rfl, hb2⟩; obtain ⟨hc, hz2, hbw⟩ := one_new hb2; have HBW := Lib.hid hbw; have hl2 := hc.lt; have hcc0 := hc.cell 0 _ rfl; have hcc4 := hc.cell 6 _ rfl; have hcc5 := hc.cell 5 _ rfl; have hcc7 := hc.cell 7 _ rfl; clear hb2 hbw; generalize hbN : numR _ _ _ = bN; have HBN := Lib.hid hbN; clear hbN) | (go_at_call 111; refine (HV.out _).mono ?_; rintro e3 w3 ⟨rfl, hb3⟩; have HC3 := Lib.hid (hc.below hb3 hl2); clear hcc0 hcc4 hcc5 hcc7; have hcc0 := HC3.out.cell 0 _ rfl; have hcc4 := HC3.out.cell 6 _ rfl; have hcc7 := HC3.out.cell 7 _ rfl; have HB3 := Lib.hid (HBW.out.trans (hb3.mono HBW.out.size)); clear hb3 hc))
          all_goals first | (go_ret; refine ⟨⟨_, rfl, ?_⟩, (by first | exact HB3.out | exact HBW.out | ((repeat' (first | (with_reducible refine Below.setCell ?_ ?_ _) | (with_reducible refine Below.alloc ?_ ?_ _) | (with_reducible refine Below.drew ?_) | (with_reducible assumption) | (with_reducible exact Below.refl _ _) | (simp only [World.size_alloc, World.size_setCell, World.size_drew]; done) | (simp only [World.size_alloc, World.size_setCell, World.size_drew]; omega) | omega))))⟩) | skip
          all_goals first | (show (_ ↔ _); rw [HP.out]; unfold plainT validS; have q1 := HBV.out; (try have q3 := HBN.out); (try clear HBN); clear HP HBV HV HR HB0 hll hlk hl hm hkl0 hkm0 hbb; simp only [Bool.not_eq_eq_eq_not, Bool.not_false, Bool.not_true, List.isEmpty_iff, List.isEmpty_eq_false_iff, nil_iff, List.length_pos_iff, List.length_eq_zero_iff] at *; (try subst_vars); (simp_all <;> (intros; first | omega | (exfalso; omega)))) | (show (_ ↔ _); rename_i h; rw [HP.out]; refine no_iff ?_; rintro ⟨-, -, -, q3, -⟩; rcases q3 with q3 | q3; (omega); (exact absurd q3 (by simpa [nil_iff] using h))) | (show (_ ↔ _); rename_i h; rw [HP.out]; refine no_iff ?_; rintro ⟨-, -, -, -, -, -, -, -, q8, -⟩; have q1 := HBV.out; unfold validS at q8; rw [← q1] at q8; rw [q8] at h; exact absurd h (by decide)) | skip
          all_goals
            go_loopw [3] (fun i wr => i = .int .i64 0 ∧ wr.cell? ⟨w.heap.size, 6, none⟩ = some (.slice ka 0 kc) ∧ Below w.heap.size w wr) (fun i _ => 1 - (intOf i).toNat)
            case atStart => exact ⟨rfl, hcc4, HB3.out⟩
            case round =>
              obtain ⟨rfl, hX, hbl⟩ := hrel
              have HBL := Lib.hid hbl
              clear hbl hcc0 hcc4 hcc7
              go_wp2_with fail
              go_ret
              refine ⟨⟨true, rfl, ?_⟩, HBL.out⟩
              have hkz : keysR [] := ⟨by simp, by simp⟩
              show (_ ↔ _)
              rw [HP.out]
              unfold plainT validS
              have q1 := HBV.out
              try have q3 := HBN.out
              try clear HBN
              clear HP HBV HV HR HB0 hll hlk hl hm hkl0 hkm0 hbb
              simp only [Bool.not_eq_eq_eq_not, Bool.not_false, Bool.not_true, List.isEmpty_iff, List.isEmpty_eq_false_iff, nil_iff, List.length_pos_iff, List.length_eq_zero_iff] at *
              try subst_vars
              simp_all <;> (intros; first | omega | (exfalso; omega))
        · skip
          go_enter Tryd.func80, Tryd.ntmps80
          go_wp2_with (first | (go_at_call 38; refine (rNumRight_any _ _ _ _ (by omega)).mono ?_; rintro e2 w2 ⟨rfl, hb2⟩; obtain ⟨hc, hz2, hbw⟩ := one_new hb2; have HBW := Lib.hid hbw; have hl2 := hc.lt; have hcc0 := hc.cell 0 _ rfl; have hcc4 := hc.cell 6 _ rfl; have hcc5 := hc.cell 5 _ rfl; have hcc7 := hc.cell 7 _ rfl; clear hb2 hbw; generalize hbN : numR _ _ _ = bN; have HBN := Lib.hid hbN; clear hbN) | (go_at_call 111; refine (HV.out _).mono ?_; rintro e3 w3 ⟨rfl, hb3⟩; have HC3 := Lib.hid (hc.below hb3 hl2); clear hcc0 hcc4 hcc5 hcc7; have hcc0 := HC3.out.cell 0 _ rfl; have hcc4 := HC3.out.cell 6 _ rfl; have hcc7 := HC3.out.cell 7 _ rfl; have HB3 := Lib.hid (HBW.out.trans (hb3.mono HBW.out.size)); clear hb3 hc))
          all_goals first | (go_ret; refine ⟨⟨_, rfl, ?_⟩, (by first | exact HB3.out | exact HBW.out | ((repeat' (first | (with_reducible refine Below.setCell ?_ ?_ _) | (with_reducible refine Below.alloc ?_ ?_ _) | (with_reducible refine Below.drew ?_) | (with_reducible assumption) | (with_reducible exact Below.refl _ _) | (simp only [World.size_alloc, World.size_setCell, World.size_drew]; done) | (simp only [World.size_alloc, World.size_setCell, World.size_drew]; omega) | omega))))⟩) | skip
          all_goals first | (show (_ ↔ _); rw [HP.out]; unfold plainT validS; have q1 := HBV.out; (try have q3 := HBN.out); (try clear HBN); clear HP HBV HV HR HB0 hll hlk hl hm hkl0 hkm0 hbb; simp only [Bool.not_eq_eq_eq_not, Bool.not_false, Bool.not_true, List.isEmpty_iff, List.isEmpty_eq_false_iff, nil_iff, List.length_pos_iff, List.length_eq_zero_iff] at *; (try subst_vars); (simp_all <;> (intros; first | omega | (exfalso; omega)))) | (show (_ ↔ _); rename_i h; rw [HP.out]; refine no_iff ?_; rintro ⟨-, -, -, q3, -⟩; rcases q3 with q3 | q3; (omega); (exact absurd q3 (by simpa [nil_iff] using h))) | (show (_ ↔ _); rename_i h; rw [HP.out]; refine no_iff ?_; rintro ⟨-, -, -, -, -, -, -, -, q8, -⟩; have q1 := HBV.out; unfold validS at q8; rw [← q1] at q8; rw [q8] at h; exact absurd h (by decide)) | skip
          all_goals
            go_loopw [3] (fun i wr => i = .int .i64 0 ∧ wr.cell? ⟨w.heap.size, 6, none⟩ = some (.slice ka 0 kc) ∧ Below w.heap.size w wr) (fun i _ => 1 - (intOf i).toNat)
            case atStart => exact ⟨rfl, hcc4, HB3.out⟩
            case round =>
              obtain ⟨rfl, hX, hbl⟩ := hrel
              have HBL := Lib.hid hbl
              clear hbl hcc0 hcc4 hcc7
              go_wp2_with fail
              go_ret
              refine ⟨⟨true, rfl, ?_⟩, HBL.out⟩
              have hkz : keysR [] := ⟨by simp, by simp⟩
              show (_ ↔ _)
              rw [HP.out]
              unfold plainT validS
              have q1 := HBV.out
              try have q3 := HBN.out
              try clear HBN
              clear HP HBV HV HR HB0 hll hlk hl hm hkl0 hkm0 hbb
              simp only [Bool.not_eq_eq_eq_not, Bool.not_false, Bool.not_true, List.isEmpty_iff, List.isEmpty_eq_false_iff, nil_iff, List.length_pos_iff, List.length_eq_zero_iff] at *
              try subst_vars
              simp_all <;> (intros; first | omega | (exfalso; omega))
      · rcases Nat.eq_zero_or_pos kids.length with hs0 | hs0
        all_goals
          go_enter Tryd.func80, Tryd.ntmps80
          go_wp2_with (first | (go_at_call 38; refine (rNumRight_any _ _ _ _ (by omega)).mono ?_; rintro e2 w2 ⟨rfl, hb2⟩; obtain ⟨hc, hz2, hbw⟩ := one_new hb2; have HBW := Lib.hid hbw; have hl2 := hc.lt; have hcc0 := hc.cell 0 _ rfl; have hcc4 := hc.cell 6 _ rfl; have hcc5 := hc.cell 5 _ rfl; have hcc7 := hc.cell 7 _ rfl; clear hb2 hbw; generalize hbN : numR _ _ _ = bN; have HBN := Lib.hid hbN; clear hbN) | (go_at_call 111; refine (HV.out _).mono ?_; rintro e3 w3 ⟨rfl, hb3⟩; have HC3 := Lib.hid (hc.below hb3 hl2); clear hcc0 hcc4 hcc5 hcc7; have hcc0 := HC3.out.cell 0 _ rfl; have hcc4 := HC3.out.cell 6 _ rfl; have hcc7 := HC3.out.cell 7 _ rfl; have HB3 := Lib.hid (HBW.out.trans (hb3.mono HBW.out.size)); clear hb3 hc))
          all_goals first | (go_ret; refine ⟨⟨_, rfl, ?_⟩, (by first | exact HB3.out | exact HBW.out | ((repeat' (first | (with_reducible refine Below.setCell ?_ ?_ _) | (with_reducible refine Below.alloc ?_ ?_ _) | (with_reducible refine Below.drew ?_) | (with_reducible assumption) | (with_reducible exact Below.refl _ _) | (simp only [World.size_alloc, World.size_setCell, World.size_drew]; done) | (simp only [World.size_alloc, World.size_setCell, World.size_drew]; omega) | omega))))⟩) | skip
          all_goals
            show (_ ↔ _)
            rw [HP.out]
            unfold plainT validS
            have q1 := HBV.out
            try have q3 := HBN.out
            try clear HBN
            clear HP HBV HV HR HB0 hll hlk hl hm hkl0 hkm0 hbb
            simp only [Bool.not_eq_eq_eq_not, Bool.not_false, Bool.not_true, List.isEmpty_iff, List.isEmpty_eq_false_iff, nil_iff, List.length_pos_iff, List.length_eq_zero_iff] at *
            try subst_vars
            simp_all <;> (intros; first | omega | (exfalso; omega))
    · by_cases hkl : ks.length = kids.length
      · have HLEN := Lib.hid hkl
        rcases Nat.eq_zero_or_pos ks.length with hk0 | hk0
        · obtain rfl : ks = [] := List.length_eq_zero_iff.1 hk0
          obtain rfl : kids = [] := List.length_eq_zero_iff.1 (by rw [← hkl]; rfl)
          clear hk0 hkl
          go_enter Tryd.func80, Tryd.ntmps80
          go_wp2_with (first | (go_at_call 38; refine (rNumRight_any _ _ _ _ (by omega)).mono ?_; rintro e2 w2 ⟨rfl, hb2⟩; obtain ⟨hc, hz2, hbw⟩ := one_new hb2; have HBW := Lib.hid hbw; have hl2 := hc.lt; have hcc0 := hc.cell 0 _ rfl; have hcc4 := hc.cell 6 _ rfl; have hcc5 := hc.cell 5 _ rfl; have hcc7 := hc.cell 7 _ rfl; clear hb2 hbw; generalize hbN : numR _ _ _ = bN; have HBN := Lib.hid hbN; clear hbN) | (go_at_call 111; refine (HV.out _).mono ?_; rintro e3 w3 ⟨rfl, hb3⟩; have HC3 := Lib.hid (hc.below hb3 hl2); clear hcc0 hcc4 hcc5 hcc7; have hcc0 := HC3.out.cell 0 _ rfl; have hcc4 := HC3.out.cell 6 _ rfl; have hcc7 := HC3.out.cell 7 _ rfl; have HB3 := Lib.hid (HBW.out.trans (hb3.mono HBW.out.size)); clear hb3 hc))
          all_goals first | (go_ret; refine ⟨⟨_, rfl, ?_⟩, (by first | exact HB3.out | exact HBW.out | ((repeat' (first | (with_reducible refine Below.setCell ?_ ?_ _) | (with_reducible refine Below.alloc ?_ ?_ _) | (with_reducible refine Below.drew ?_) | (with_reducible assumption) | (with_reducible exact Below.refl _ _) | (simp only [World.size_alloc, World.size_setCell, World.size_drew]; done) | (simp only [World.size_alloc, World.size_setCell, World.size_drew]; omega) | omega))))⟩) | skip
          all_goals first | (show (_ ↔ _); rw [HP.out]; unfold plainT validS; have q1 := HBV.out; (try have q3 := HBN.out); (try clear HBN); clear HP HBV HV HR HB0 hll hlk hl hm hkl0 hkm0 hbb; simp only [Bool.not_eq_eq_eq_not, Bool.not_false, Bool.not_true, List.isEmpty_iff, List.isEmpty_eq_false_iff, nil_iff, List.length_pos_iff, List.length_eq_zero_iff] at *; (try subst_vars); (simp_all <;> (intros; first | omega | (exfalso; omega)))) | (show (_ ↔ _); rename_i h; rw [HP.out]; refine no_iff ?_; rintro ⟨-, -, -, q3, -⟩; rcases q3 with q3 | q3; (omega); (exact absurd q3 (by simpa [nil_iff] using h))) | (show (_ ↔ _); rename_i h; rw [HP.out]; refine no_iff ?_; rintro ⟨-, -, -, -, -, -, -, -, q8, -⟩; have q1 := HBV.out; unfold validS at q8; rw [← q1] at q8; rw [q8] at h; exact absurd h (by decide)) | skip
          all_goals
            go_loopw [3] (fun i wr => i = .int .i64 0 ∧ wr.cell? ⟨w.heap.size, 6, none⟩ = some (.slice ka 0 kc) ∧ Below w.heap.size w wr) (fun i _ => 1 - (intOf i).toNat)
            case atStart => exact ⟨rfl, hcc4, HB3.out⟩
            case round =>
              obtain ⟨rfl, hX, hbl⟩ := hrel
              have HBL := Lib.hid hbl
              clear hbl hcc0 hcc4 hcc7
              go_wp2_with fail
              go_ret
              refine ⟨⟨true, rfl, ?_⟩, HBL.out⟩
              have hkz : keysR [] := ⟨by simp, by simp⟩
              show (_ ↔ _)
              rw [HP.out]
              unfold plainT validS
              have q1 := HBV.out
              try have q3 := HBN.out
              try clear HBN
              clear HP HBV HV HR HB0 hll hlk hl hm hkl0 hkm0 hbb
              simp only [Bool.not_eq_eq_eq_not, Bool.not_false, Bool.not_true, List.isEmpty_iff, List.isEmpty_eq_false_iff, nil_iff, List.length_pos_iff, List.length_eq_zero_iff] at *
              try subst_vars
              simp_all <;> (intros; first | omega | (exfalso; omega))
        · have hkl2 : ((ks.length : Int) != (kids.length : Int)) = false := by rw [bne_eq_false_iff_eq]; omega
          clear hkl
          go_enter Tryd.func80, Tryd.ntmps80
          go_wp2_with (first | (go_at_call 38; refine (rNumRight_any _ _ _ _ (by omega)).mono ?_; rintro e2 w2 ⟨rfl, hb2⟩; obtain ⟨hc, hz2, hbw⟩ := one_new hb2; have HBW := Lib.hid hbw; have hl2 := hc.lt; have hcc0 := hc.cell 0 _ rfl; have hcc4 := hc.cell 6 _ rfl; have hcc5 := hc.cell 5 _ rfl; have hcc7 := hc.cell 7 _ rfl; clear hb2 hbw; generalize hbN : numR _ _ _ = bN; have HBN := Lib.hid hbN; clear hbN) | (go_at_call 111; refine (HV.out _).mono ?_; rintro e3 w3 ⟨rfl, hb3⟩; have HC3 := Lib.hid (hc.below hb3 hl2); clear hcc0 hcc4 hcc5 hcc7; have hcc0 := HC3.out.cell 0 _ rfl; have hcc4 := HC3.out.cell 6 _ rfl; have hcc7 := HC3.out.cell 7 _ rfl; have HB3 := Lib.hid (HBW.out.trans (hb3.mono HBW.out.size)); clear hb3 hc))
          all_goals first | (go_ret; refine ⟨⟨_, rfl, ?_⟩, (by first | exact HB3.out | exact HBW.out | ((repeat' (first | (with_reducible refine Below.setCell ?_ ?_ _) | (with_reducible refine Below.alloc ?_ ?_ _) | (with_reducible refine Below.drew ?_) | (with_reducible assumption) | (with_reducible exact Below.refl _ _) | (simp only [World.size_alloc, World.size_setCell, World.size_drew]; done) | (simp only [World.size_alloc, World.size_setCell, World.size_drew]; omega) | omega))))⟩) | skip
          all_goals first | (show (_ ↔ _); rw [HP.out]; unfold plainT validS; have q1 := HBV.out; (try have q3 := HBN.out); (try clear HBN); clear HP HBV HV HR HB0 hll hlk hl hm hkl0 hkm0 hbb; simp only [Bool.not_eq_eq_eq_not, Bool.not_false, Bool.not_true, List.isEmpty_iff, List.isEmpty_eq_false_iff, nil_iff, List.length_pos_iff, List.length_eq_zero_iff] at *; (try subst_vars); (simp_all <;> (intros; first | omega | (exfalso; omega)))) | (show (_ ↔ _); rename_i h; rw [HP.out]; refine no_iff ?_; rintro ⟨-, -, -, q3, -⟩; rcases q3 with q3 | q3; (omega); (exact absurd q3 (by simpa [nil_iff] using h))) | (show (_ ↔ _); rename_i h; rw [HP.out]; refine no_iff ?_; rintro ⟨-, -, -, -, -, -, -, -, q8, -⟩; have q1 := HBV.out; unfold validS at q8; rw [← q1] at q8; rw [q8] at h; exact absurd h (by decide)) | skip
          all_goals
            go_loopw [3] (fun i wr => ∃ k : Nat, k ≤ ks.length ∧ i = .int .i64 (k : Int) ∧ keysR (ks.take k) ∧ wr.cell? ⟨w.heap.size, 6, none⟩ = some (.slice ka ks.length kc) ∧ Below w.heap.size w wr) (fun i _ => ks.length - (intOf i).toNat)
            case atStart => exact ⟨0, Nat.zero_le _, rfl, ⟨by simp, by simp⟩, hcc4, HB3.out⟩
            case round =>
              clear hcc0 hcc4 hcc7
              obtain ⟨k, hkk, rfl, hR, hX6, hbl⟩ := hrel
              have HRK := Lib.hid hR
              clear hR
              by_cases hkl3 : k < ks.length
              · obtain ⟨ba, oa, rfl, hlta, hcella⟩ := (HR.out.below hbl (Nat.le_refl _)).at hkl3
                have hck := hcella k hkl3
                have hXl := World.block_lt_of_cell? wr _ hX6
                have hks := ks_all (List.getElem_mem hkl3)
                have hVk := rValid_any ks[k] wr (by omega)
                obtain ⟨bk, hbk⟩ : ∃ b, b = (scan (bs ks[k]) 0).2.isNone := ⟨_, rfl⟩
                rw [← hbk] at hVk
                have HBK := Lib.hid hbk
                have HCELL := Lib.hid hcella
                have HTK : Hid (ks.take (k + 1) = ks.take k ++ [ks[k]]) := Lib.hid (take_snoc' ks k hkl3)
                have HDUP : Hid (∀ m (hm : m < k), ks[m] = ks[k] → ¬ keysR ks) := Lib.hid (fun m hm he => keysR_not hkl3 hm he)
                have HBL := Lib.hid hbl
                clear hbk hcella hbl
                generalize hkey : ks[k] = key at *
                go_wp2_with fail
                refine hVk.mono ?_
                clear hVk
                rintro e4 w4 ⟨rfl, hb4⟩
                have hX7 := (hb4.cell (p := ⟨w.heap.size, 6, none⟩) hXl).trans hX6
                have HB4 := Lib.hid (HBL.out.trans (hb4.mono HBL.out.size))
                clear hX6 hb4
                cases bk
                · have HNK : Hid (¬ keysR ks) := Lib.hid (fun h => by
                    have h1 := h.1 key (by rw [← hkey]; exact List.getElem_mem hkl3)
                    unfold validS at h1
                    rw [← HBK.out] at h1
                    cases h1)
                  clear HTK HDUP HRK HCELL
                  go_wp2_with fail
                  go_ret
                  refine ⟨⟨false, rfl, no_iff (fun h => ?_)⟩, HB4.out⟩
                  rw [HP.out] at h
                  exact HNK.out h.2.2.2.2.2.2.2.2.2
                · go_wp2_with fail
                  go_loopw [4] (fun j wr => ∃ m : Nat, m ≤ k ∧ j = .int .i64 (m : Int) ∧ key ∉ ks.take m ∧ wr.cell? ⟨w.heap.size, 6, none⟩ = some (.slice (some ⟨ba, oa, none⟩) ks.length kc) ∧ Below w.heap.size w wr) (fun j _ => k - (intOf j).toNat)
                  case atStart => exact ⟨0, Nat.zero_le _, rfl, by simp, hX7, HB4.out⟩
                  case round =>
                    clear hX7 HB4
                    obtain ⟨m, hmk, rfl, hnot, hX8, hbl8⟩ := hrel
                    have HN := Lib.hid hnot
                    clear hnot
                    have hX8l := World.block_lt_of_cell? wr _ hX8
                    have hrow := HR.out.below hbl8 (Nat.le_refl _)
                    obtain ⟨ba', oa', he, hlta', hcell'⟩ := hrow.at hkl3
                    cases he
                    have hckk := hcell' k hkl3
                    rw [hkey] at hckk
                    by_cases hml : m < k
                    · have hml2 : m < ks.length := by omega
                      have hckm := hcell' m hml2
                      by_cases heq : ks[m] = key
                      · have HNK := Lib.hid (HDUP.out m hml heq)
                        rw [heq] at hckm
                        clear hcell' HTK HDUP HRK HCELL heq
                        go_wp2_with fail
                        go_quiet (fail)
                        all_goals
                          go_wp2
                        go_ret
                        refine ⟨⟨false, rfl, no_iff (fun h => ?_)⟩, hbl8.trans (below_draws w.heap.size wr _)⟩
                        rw [HP.out] at h
                        exact HNK.out h.2.2.2.2.2.2.2.2.2
                      · have HN2 := Lib.hid (not_mem_snoc hml2 HN.out heq)
                        clear hcell' HN
                        generalize ks[m] = y at *
                        go_wp2_with fail
                        go_quiet (fail)
                        all_goals
                          go_wp2
                        · rename_i hh
                          rw [str_ne heq] at hh
                          cases hh
                        · go_roundw
                          case rel => exact ⟨m + 1, by omega, by go_num, HN2.out, hX8, hbl8.trans (below_draws w.heap.size wr _)⟩
                          case measure => simp [intOf]; omega
                    · obtain rfl : m = k := by omega
                      have HE := Lib.hid (And.intro hX8 hbl8)
                      have hkz : keysR (ks.take (m + 1)) := by
                        rw [HTK.out]
                        exact keysR_snoc.2 ⟨HRK.out, HBK.out.symm, HN.out⟩
                      have HKZ := Lib.hid hkz
                      clear hkz hcell' hbl8 hrow
                      go_wp2_with fail
                      go_roundw
                      case rel => first | exact ⟨m + 1, by omega, by go_num, HKZ.out, HE.out.1, HE.out.2⟩ | exact ⟨m + 1, by omega, by go_num, HKZ.out, HE.out.2⟩
                      case measure => simp [intOf]; omega
              · obtain rfl : k = ks.length := by omega
                have HBL := Lib.hid hbl
                clear hbl
                go_wp2_with fail
                go_ret
                refine ⟨⟨true, rfl, ?_⟩, HBL.out⟩
                have hkz := HRK.out
                rw [List.take_length] at hkz
                have q4 := HLEN.out
                clear HRK HLEN hX6 hkl2 hkk hkl3
                show (_ ↔ _)
                rw [HP.out]
                unfold plainT validS
                have q1 := HBV.out
                try have q3 := HBN.out
                try clear HBN
                clear HP HBV HV HR HB0 hll hlk hl hm hkl0 hkm0 hbb
                simp only [Bool.not_eq_eq_eq_not, Bool.not_false, Bool.not_true, List.isEmpty_iff, List.isEmpty_eq_false_iff, nil_iff, List.length_pos_iff, List.length_eq_zero_iff] at *
                try subst_vars
                simp_all <;> (intros; first | omega | (exfalso; omega))
      · have hkl2 : ((ks.length : Int) != (kids.length : Int)) = true := by rw [bne_iff_ne]; omega
        go_enter Tryd.func80, Tryd.ntmps80
        go_wp2_with (first | (go_at_call 38; refine (rNumRight_any _ _ _ _ (by omega)).mono ?_; rintro e2 w2 ⟨rfl, hb2⟩; obtain ⟨hc, hz2, hbw⟩ := one_new hb2; have HBW := Lib.hid hbw; have hl2 := hc.lt; have hcc0 := hc.cell 0 _ rfl; have hcc4 := hc.cell 6 _ rfl; have hcc5 := hc.cell 5 _ rfl; have hcc7 := hc.cell 7 _ rfl; clear hb2 hbw; generalize hbN : numR _ _ _ = bN; have HBN := Lib.hid hbN; clear hbN) | (go_at_call 111; refine (HV.out _).mono ?_; rintro e3 w3 ⟨rfl, hb3⟩; have HC3 := Lib.hid (hc.below hb3 hl2); clear hcc0 hcc4 hcc5 hcc7; have hcc0 := HC3.out.cell 0 _ rfl; have hcc4 := HC3.out.cell 6 _ rfl; have hcc7 := HC3.out.cell 7 _ rfl; have HB3 := Lib.hid (HBW.out.trans (hb3.mono HBW.out.size)); clear hb3 hc))
        all_goals first | (go_ret; refine ⟨⟨_, rfl, ?_⟩, (by first | exact HB3.out | exact HBW.out | ((repeat' (first | (with_reducible refine Below.setCell ?_ ?_ _) | (with_reducible refine Below.alloc ?_ ?_ _) | (with_reducible refine Below.drew ?_) | (with_reducible assumption) | (with_reducible exact Below.refl _ _) | (simp only [World.size_alloc, World.size_setCell, World.size_drew]; done) | (simp only [World.size_alloc, World.size_setCell, World.size_drew]; omega) | omega))))⟩) | skip
        all_goals
          show (_ ↔ _)
          rw [HP.out]
          unfold plainT validS
          have q1 := HBV.out
          try have q3 := HBN.out
          try clear HBN
          clear HP HBV HV HR HB0 hll hlk hl hm hkl0 hkm0 hbb
          simp only [Bool.not_eq_eq_eq_not, Bool.not_false, Bool.not_true, List.isEmpty_iff, List.isEmpty_eq_false_iff, nil_iff, List.length_pos_iff, List.length_eq_zero_iff] at *
          try subst_vars
          simp_all <;> (intros; first | omega | (exfalso; omega))
end Go.Proofs.YtpcfhiipkbpmkaaDoor
