/- The walk of Parse (layer 6), this side's. -/
import Derived.Test.YthiggalnjjcejaaDoorNuU
import Derived.Test.YthiggalnjjcejaaDoorNuT
namespace Go.Proofs.YthiggalnjjcejaaDoor
set_option linter.unusedSimpArgs false
set_option linter.unusedVariables false
open Go.RowKit Go.Tab

set_option maxRecDepth 100000 in
theorem clone_any (s : ByteArray) (w : World) (hs : s.size ≤ 1048576) : Calls Tryd.prog 31 #[.string s] w fun e w' => e = .returned (.string s) ∧ Below w.heap.size w w' := by
  have hF := fun W => Go.Proofs.Tryd.stringslite_Clone s W (by omega)
  go_enter Tryd.func31, Tryd.ntmps31
  go_wp2_with fail
  refine (hF _).mono ?_
  rintro _ w1 ⟨rfl, hb⟩
  go_wp2
  go_ret
  exact ⟨rfl, hb⟩

/-- What Parse hands back. -/
def numOut (r : (Bool × Bs × Int) × Int) : Value := .tuple #[.agg #[.bool r.1.1, .string (strL r.1.2.1), .int .i64 r.1.2.2], .int .i64 r.2]

set_option maxHeartbeats 4000000 in
set_option maxRecDepth 100000 in
theorem Parse_bad (s : ByteArray) (w : World) (hT : TabS w) (hs : s.size ≤ 1048576) (h : s.data.toList = [] ∨ scanN s.data.toList ≠ s.size) :
    Calls Tryd.prog 10 #[.string s] w fun e w' => e = .returned (numOut ((false, [], 0), 3)) ∧ Below w.heap.size w w' := by
  by_cases h0 : s.size = 0
  · have hd : s = ⟨#[]⟩ := emp_of h0
    subst hd
    clear h h0 hs
    go_enter Tryd.func10, Tryd.ntmps10
    go_wp2
    refine bodyPost_ret (v := numOut ((false, [], 0), 3)) (by simp [results, Tryd.results10, go_sem, numOut, strL]) rfl ⟨rfl, ?_⟩
    (repeat' (first | (with_reducible refine Below.setCell ?_ ?_ _) | (with_reducible refine Below.alloc ?_ ?_ _) | (with_reducible refine Below.drew ?_) | (with_reducible refine below_drewN ?_ _) | (with_reducible assumption) | (with_reducible exact Below.refl _ _) | (simp only [World.size_alloc, World.size_setCell, World.size_drew]; done) | (simp only [World.size_alloc, World.size_setCell, World.size_drew]; omega) | omega))
  · have hne := ne_emp h0
    have hn : ((scanN s.data.toList : Int) != (s.size : Int)) = true := by
      rcases h with h | h
      · rw [size_list, h] at h0; exact absurd rfl h0
      · rw [bne_iff_ne]; omega
    have hS := Scan_any s (w.alloc (.cells #[.bool false, .string ⟨#[]⟩, .int .i64 0] 24)) (fun j hj => by rw [World.cell?_alloc_past _ _ _ hT.pos]; exact hT j hj) (by unfold maxLen; omega)
    clear h h0
    go_enter Tryd.func10, Tryd.ntmps10
    go_wp2_with fail
    refine hS.mono ?_
    rintro _ w1 ⟨rfl, n, rfl⟩
    go_wp2
    refine bodyPost_ret (v := numOut ((false, [], 0), 3)) (by simp [results, Tryd.results10, go_sem, numOut, strL]) rfl ⟨rfl, ?_⟩
    (repeat' (first | (with_reducible refine Below.setCell ?_ ?_ _) | (with_reducible refine Below.alloc ?_ ?_ _) | (with_reducible refine Below.drew ?_) | (with_reducible refine below_drewN ?_ _) | (with_reducible assumption) | (with_reducible exact Below.refl _ _) | (simp only [World.size_alloc, World.size_setCell, World.size_drew]; done) | (simp only [World.size_alloc, World.size_setCell, World.size_drew]; omega) | omega))

theorem powP_bounds (sg pw : Bs) : -1099511627776 ≤ powP sg pw ∧ powP sg pw ≤ 1099511627776 := by
  have := foldP_lt pw 0 (by omega)
  unfold powP sgn
  split <;> omega
theorem strL_at (l : Bs) (k : Nat) (h : k < (strL l).size) : (strL l)[k]'h = l[k]'(by rw [← size_strL]; exact h) := rfl
theorem strL_ext (l : Bs) (a b : Nat) : (strL l).extract a b = strL ((l.take b).drop a) := str_ext (by rw [ext_list, strL_list, strL_list])

theorem idxAny_walk (l : Bs) (v : Int) (W : World) (hl : l.length ≤ 1048576) (ha : ∀ x ∈ l, x.toNat < 128) (hv : Lib.indexAny l [101, 69] = v) :
    Calls Tryd.prog 26 #[.string (strL l), .string ⟨#[101, 69]⟩] W fun e w' => e = .returned (.int .i64 v) ∧ Below W.heap.size W w' := by
  subst hv
  refine Go.Proofs.Tryd.strings_IndexAny_laid (strL l) ⟨#[101, 69]⟩ W (by rw [size_strL]; omega) (by decide) (fun j b hb => ha b (List.mem_of_getElem? hb)) (fun j b hb => ?_)
  have hm : b ∈ ([101, 69] : Bs) := List.mem_of_getElem? hb
  simp at hm
  rcases hm with rfl | rfl <;> decide
set_option maxHeartbeats 4000000 in
set_option maxRecDepth 100000 in
theorem Parse_good (s : ByteArray) (neg : Bool) (ip fr mk sg pw : Bs) (w : World) (hT : TabS w) (hs : s.size ≤ 1048576) (h : NumTxt s.data.toList neg ip fr mk sg pw) :
    Calls Tryd.prog 10 #[.string s] w fun e w' => e = .returned (numOut (numVal neg ip fr (powP sg pw))) ∧ Below w.heap.size w w' := by
  have hne : s.toList.isEmpty = false := ne_emp (by rw [size_list]; exact len_pos h.scan.2)
  have hn : ((scanN s.data.toList : Int) != (s.size : Int)) = false := by
    rw [h.scan.1, size_list]
    exact bne_self_eq_false _
  have hS := Scan_any s (w.alloc (.cells #[.bool false, .string ⟨#[]⟩, .int .i64 0] 24)) (fun j hj => by rw [World.cell?_alloc_past _ _ _ hT.pos]; exact hT j hj) (by unfold maxLen; omega)
  have hlen := h.len
  have hC : ∀ W, Calls Tryd.prog 25 #[.string s, .string ⟨#[45]⟩] W fun e w' => e = .returned (.tuple #[.string (strL (frontT ip fr ++ (mk ++ (sg ++ pw)))), .bool neg]) ∧ W = w' := fun W => (Go.Proofs.Tryd.strings_CutPrefix s ⟨#[45]⟩ W).mono fun e w' ⟨h1, h2⟩ => ⟨by rw [h1]; show Ending.returned (.tuple #[.string ⟨(Lib.trimPrefix s.data.toList [45]).toArray⟩, .bool (Lib.hasPrefix s.data.toList [45])]) = _; rw [h.cut.1, h.cut.2]; rfl, h2.symm⟩
  obtain ⟨p, hp⟩ : ∃ p, powP sg pw = p := ⟨_, rfl⟩
  have hpb := powP_bounds sg pw
  rw [hp] at hpb
  have hP := Lib.hid hp
  have hDL := trimL_le (ip ++ fr)
  have hCL : (valC ip fr).length ≤ (valD ip fr).length := trimR_le _
  rw [List.length_append] at hDL
  change (valD ip fr).length ≤ _ at hDL
  rw [← size_list] at hlen
  obtain ⟨l1, l2, l3, l4⟩ := hlen
  have hTL : ∀ W, Calls Tryd.prog 29 #[.string (strL (ip ++ fr)), .string ⟨#[48]⟩] W fun e w' => e = .returned (.string (strL (valD ip fr))) ∧ W = w' := fun W => (Go.Proofs.Tryd.strings_TrimLeft_one (strL (ip ++ fr)) 48 (by decide) W).mono fun _ _ h => ⟨h.1, h.2.symm⟩
  have hTR : ∀ W, Calls Tryd.prog 30 #[.string (strL (valD ip fr)), .string ⟨#[48]⟩] W fun e w' => e = .returned (.string (strL (valC ip fr))) ∧ W = w' := fun W => (Go.Proofs.Tryd.strings_TrimRight_one (strL (valD ip fr)) 48 (by decide) W (by rw [size_strL]; omega)).mono fun _ _ h => ⟨h.1, h.2.symm⟩
  have hIA := fun W v (hv : Lib.indexAny (frontT ip fr ++ (mk ++ (sg ++ pw))) [101, 69] = v) => idxAny_walk (frontT ip fr ++ (mk ++ (sg ++ pw))) v W (by omega) h.ascii hv
  by_cases hm : mk = []
  · obtain ⟨m1, m2, m3⟩ := h.mark_none hm
    have hI := fun W => hIA W _ m1
    rw [hp] at m3
    rw [m2] at hC hI
    clear hIA m1 m2
    by_cases hf : fr = []
    · obtain ⟨p1, p2⟩ := h.point_none hf
      have hB : ∀ W, Calls Tryd.prog 28 #[.string (strL (frontT ip fr)), .int .u8 46] W fun e w' => e = .returned (.int .i64 (-1)) ∧ W = w' := fun W => (Go.Proofs.Tryd.strings_IndexByte (strL (frontT ip fr)) 46 W).mono fun e w' ⟨h1, h2⟩ => ⟨by rw [h1]; show Ending.returned (.int .i64 (Lib.indexByte (frontT ip fr) 46)) = _; rw [p1], h2.symm⟩
      rw [p2] at hB hC hI
      have hdl : fr.length = 0 := by rw [hf]; rfl
      have szD : (strL (valD ip fr)).size = (valD ip fr).length := size_strL _
      have szC : (strL (valC ip fr)).size = (valC ip fr).length := size_strL _
      clear h hm hf p1 p2 hp l4
      generalize strL (ip ++ fr) = G at *
      generalize hD : strL (valD ip fr) = D at hTL hTR szD
      generalize hCe : strL (valC ip fr) = C at hTR szC
      have HC := Lib.hid hCe
      have SD := Lib.hid szD
      have SC := Lib.hid szC
      have hCD : C.size ≤ D.size := by omega
      have hDm : D.size ≤ 1048576 := by omega
      clear hD hCe szD szC hDL hCL
      obtain ⟨E, hE⟩ : ∃ E : Int, E = (D.size : Int) - (C.size : Int) := ⟨_, rfl⟩
      have hx0 : ∀ n, Cells ((w.alloc (.cells #[.bool false, .string ⟨#[]⟩, .int .i64 0] 24)).drewN n) w.heap.size #[.bool false, .string ⟨#[]⟩, .int .i64 0] 24 := fun n => (Cells.new w _ _).drewN n
      have hb0 : ∀ n, Below w.heap.size w ((w.alloc (.cells #[.bool false, .string ⟨#[]⟩, .int .i64 0] 24)).drewN n) := fun n => below_drewN ((Below.refl _ w).alloc (Nat.le_refl _) _) n
      go_enter Tryd.func10, Tryd.ntmps10
      go_wp2_with fail
      refine hS.mono ?_
      clear hS
      rintro _ w1 ⟨rfl, n, rfl⟩
      go_wp2_with fail
      refine (hC _).mono ?_
      rintro _ _ ⟨rfl, rfl⟩
      go_wp2_with fail
      refine (hI _).mono ?_
      rintro _ w1 ⟨rfl, hb⟩
      have hx := (hx0 n).below hb (hx0 n).lt
      have hb := (hb0 n).trans (hb.mono (hb0 n).size)
      clear hx0 hb0
      have hxc0 := hx.cell 0 _ rfl
      have hxf0 := hx.frozen 0
      have hxc1 := hx.cell 1 _ rfl
      have hxf1 := hx.frozen 1
      have hxc2 := hx.cell 2 _ rfl
      have hxf2 := hx.frozen 2
      go_wp2_with fail
      refine (hB _).mono ?_
      rintro _ _ ⟨rfl, rfl⟩
      go_wp2_with fail
      refine (hTL _).mono ?_
      rintro _ _ ⟨rfl, rfl⟩
      go_wp2_with fail
      refine (hTR _).mono ?_
      rintro _ _ ⟨rfl, rfl⟩
      by_cases hz : C.size = 0
      · have hCz := emp_of hz
        have hV := Lib.hid (show numVal neg ip fr (powP sg pw) = ((false, [], 0), 0) by
          rw [numVal, if_pos (List.eq_nil_of_length_eq_zero (by have := SC.out; omega))])
        clear hz
        subst hCz
        go_wp2
        refine bodyPost_ret (v := numOut ((false, [], 0), 0)) (by simp [results, Tryd.results10, go_sem, numOut, strL, hxc0, hxc1, hxc2]) rfl ⟨by rw [hV.out], ?_⟩
        (repeat' (first | (with_reducible refine Below.setCell ?_ ?_ _) | (with_reducible refine Below.alloc ?_ ?_ _) | (with_reducible refine Below.drew ?_) | (with_reducible refine below_drewN ?_ _) | (with_reducible assumption) | (with_reducible exact Below.refl _ _) | (simp only [World.size_alloc, World.size_setCell, World.size_drew]; done) | (simp only [World.size_alloc, World.size_setCell, World.size_drew]; omega) | omega))
      · have hCn := ne_emp hz
        have hR := fun W => numRight_any neg C E W (by omega)
        have hV := Lib.hid (show numVal neg ip fr (powP sg pw) = if numR neg C E then ((neg, valC ip fr, E), 0) else ((false, [], 0), 4) by
          have hc0 : valC ip fr ≠ [] := fun e => hz (by rw [SC.out, e]; rfl)
          have hEE : valE ip fr (powP sg pw) = E := by have := SC.out; have := SD.out; have := hP.out; (try have := hFl.out); unfold valE; omega
          rw [numVal, if_neg hc0, hEE, show (⟨(valC ip fr).toArray⟩ : ByteArray) = C from HC.out])
        have hE2 := Lib.hid hE
        have hE' := hE.symm
        clear hz hE
        go_wp2_with fail
        refine (hR _).mono ?_
        clear hR
        rintro _ w2 ⟨rfl, hb2⟩
        have hx1 := (hx.alloc (.cells #[.bool neg, .string C, .int .i64 E] 24)).below hb2 (hx.alloc _).lt
        have hy1 := (Cells.new w1 #[.bool neg, .string C, .int .i64 E] 24).below hb2 (Cells.new _ _ _).lt
        have hb3 := (hb.alloc hb.size (.cells #[.bool neg, .string C, .int .i64 E] 24)).trans (hb2.mono (by simp only [World.size_alloc]; have := hb.size; omega))
        have hsz := hb.size
        have hne3 : w.heap.size ≠ w1.heap.size := fun e => by have := hx.lt; omega
        clear hb2 hxc0 hxc1 hxc2 hxf0 hxf1 hxf2
        have hx1c0 := hx1.cell 0 _ rfl
        have hx1f0 := hx1.frozen 0
        have hx1c1 := hx1.cell 1 _ rfl
        have hx1f1 := hx1.frozen 1
        have hx1c2 := hx1.cell 2 _ rfl
        have hx1f2 := hx1.frozen 2
        have hy1c0 := hy1.cell 0 _ rfl
        have hy1f0 := hy1.frozen 0
        have hy1c1 := hy1.cell 1 _ rfl
        have hy1f1 := hy1.frozen 1
        have hy1c2 := hy1.cell 2 _ rfl
        have hy1f2 := hy1.frozen 2
        by_cases hr : numR neg C E = true
        · have hV2 := Lib.hid (show numVal neg ip fr (powP sg pw) = ((neg, valC ip fr, E), 0) by rw [hV.out, if_pos hr])
          have hCl := fun W => clone_any C W (by omega)
          clear hV
          go_wp2_with fail
          refine (hCl _).mono ?_
          rintro _ w3 ⟨rfl, hb4⟩
          have hx2 := hx1.below hb4 hx1.lt
          have hy2 := hy1.below hb4 hy1.lt
          have hb5 := hb3.trans (hb4.mono hb3.size)
          have hsz2 := hb5.size
          clear hb4 hx1c0 hx1c1 hx1c2 hx1f0 hx1f1 hx1f2 hy1c0 hy1c1 hy1c2 hy1f0 hy1f1 hy1f2
          have hx2c0 := hx2.cell 0 _ rfl
          have hx2f0 := hx2.frozen 0
          have hx2c1 := hx2.cell 1 _ rfl
          have hx2f1 := hx2.frozen 1
          have hx2c2 := hx2.cell 2 _ rfl
          have hx2f2 := hx2.frozen 2
          have hy2c0 := hy2.cell 0 _ rfl
          have hy2f0 := hy2.frozen 0
          have hy2c1 := hy2.cell 1 _ rfl
          have hy2f1 := hy2.frozen 1
          have hy2c2 := hy2.cell 2 _ rfl
          have hy2f2 := hy2.frozen 2
          go_wp2
          have hCe := HC.out
          refine bodyPost_ret (v := numOut ((neg, valC ip fr, E), 0)) (by simp [results, Tryd.results10, go_sem, numOut, hCe, hx2c0, hx2c1, hx2c2]) rfl ⟨by rw [hV2.out], ?_⟩
          (repeat' (first | (with_reducible refine Below.setCell ?_ ?_ _) | (with_reducible refine Below.alloc ?_ ?_ _) | (with_reducible refine Below.drew ?_) | (with_reducible refine below_drewN ?_ _) | (with_reducible assumption) | (with_reducible exact Below.refl _ _) | (simp only [World.size_alloc, World.size_setCell, World.size_drew]; done) | (simp only [World.size_alloc, World.size_setCell, World.size_drew]; omega) | omega))
        · have hV2 := Lib.hid (show numVal neg ip fr (powP sg pw) = ((false, [], 0), 4) by rw [hV.out, if_neg hr])
          have hr' : numR neg C E = false := by simpa using hr
          clear hV hr
          go_wp2
          refine bodyPost_ret (v := numOut ((false, [], 0), 4)) (by simp [results, Tryd.results10, go_sem, numOut, strL, hx1c0, hx1c1, hx1c2]) rfl ⟨by rw [hV2.out], ?_⟩
          (repeat' (first | (with_reducible refine Below.setCell ?_ ?_ _) | (with_reducible refine Below.alloc ?_ ?_ _) | (with_reducible refine Below.drew ?_) | (with_reducible refine below_drewN ?_ _) | (with_reducible assumption) | (with_reducible exact Below.refl _ _) | (simp only [World.size_alloc, World.size_setCell, World.size_drew]; done) | (simp only [World.size_alloc, World.size_setCell, World.size_drew]; omega) | omega))
    · obtain ⟨p1, p2⟩ := h.point_some hf
      have hB : ∀ W, Calls Tryd.prog 28 #[.string (strL (frontT ip fr)), .int .u8 46] W fun e w' => e = .returned (.int .i64 (ip.length : Nat)) ∧ W = w' := fun W => (Go.Proofs.Tryd.strings_IndexByte (strL (frontT ip fr)) 46 W).mono fun e w' ⟨h1, h2⟩ => ⟨by rw [h1]; show Ending.returned (.int .i64 (Lib.indexByte (frontT ip fr) 46)) = _; rw [p1], h2.symm⟩
      have hl4 := l4 hf
      have hsF : (strL (frontT ip fr)).size = (frontT ip fr).length := size_strL _
      have hsl : (strL (frontT ip fr)).extract 0 ip.length ++ (strL (frontT ip fr)).extract (ip.length + 1) (strL (frontT ip fr)).size = strL (ip ++ fr) := by
        refine str_ext ?_
        rw [app_list, ext_list, ext_list, size_strL, strL_list, List.take_length, p2, strL_list]
        have e1 : (ip ++ 46 :: fr).drop (ip.length + 1) = fr := by rw [← List.drop_drop, List.drop_left]; rfl
        rw [e1, List.take_left]
        simp
      generalize strL (frontT ip fr) = F at *
      have hF1 : ip.length ≤ F.size := by omega
      have hF2 : ip.length + 1 ≤ F.size := by omega
      have hF3 : F.size ≤ 1048576 := by omega
      have hFl : Hid (F.size = ip.length + fr.length + 1) := Lib.hid (by omega)
      clear hl4 hsF
      have szD : (strL (valD ip fr)).size = (valD ip fr).length := size_strL _
      have szC : (strL (valC ip fr)).size = (valC ip fr).length := size_strL _
      clear h hm hf p1 p2 hp l4
      generalize strL (ip ++ fr) = G at *
      generalize hD : strL (valD ip fr) = D at hTL hTR szD
      generalize hCe : strL (valC ip fr) = C at hTR szC
      have HC := Lib.hid hCe
      have SD := Lib.hid szD
      have SC := Lib.hid szC
      have hCD : C.size ≤ D.size := by omega
      have hDm : D.size ≤ 1048576 := by omega
      clear hD hCe szD szC hDL hCL
      obtain ⟨E, hE⟩ : ∃ E : Int, E = -((F.size : Int) - (ip.length : Int) - 1) + ((D.size : Int) - (C.size : Int)) := ⟨_, rfl⟩
      have hEf : Hid (F.size = ip.length + fr.length + 1) := hFl
      have hx0 : ∀ n, Cells ((w.alloc (.cells #[.bool false, .string ⟨#[]⟩, .int .i64 0] 24)).drewN n) w.heap.size #[.bool false, .string ⟨#[]⟩, .int .i64 0] 24 := fun n => (Cells.new w _ _).drewN n
      have hb0 : ∀ n, Below w.heap.size w ((w.alloc (.cells #[.bool false, .string ⟨#[]⟩, .int .i64 0] 24)).drewN n) := fun n => below_drewN ((Below.refl _ w).alloc (Nat.le_refl _) _) n
      go_enter Tryd.func10, Tryd.ntmps10
      go_wp2_with fail
      refine hS.mono ?_
      clear hS
      rintro _ w1 ⟨rfl, n, rfl⟩
      go_wp2_with fail
      refine (hC _).mono ?_
      rintro _ _ ⟨rfl, rfl⟩
      go_wp2_with fail
      refine (hI _).mono ?_
      rintro _ w1 ⟨rfl, hb⟩
      have hx := (hx0 n).below hb (hx0 n).lt
      have hb := (hb0 n).trans (hb.mono (hb0 n).size)
      clear hx0 hb0
      have hxc0 := hx.cell 0 _ rfl
      have hxf0 := hx.frozen 0
      have hxc1 := hx.cell 1 _ rfl
      have hxf1 := hx.frozen 1
      have hxc2 := hx.cell 2 _ rfl
      have hxf2 := hx.frozen 2
      go_wp2_with fail
      refine (hB _).mono ?_
      rintro _ _ ⟨rfl, rfl⟩
      go_wp2_with fail
      go_region
      have hxd := hx.drew
      have hbd : Below w.heap.size w w1.drew := Below.drew hb
      clear hx hb hxc0 hxc1 hxc2 hxf0 hxf1 hxf2
      generalize w1.drew = w4 at hxd hbd ⊢
      have hx := hxd
      have hb := hbd
      clear hxd hbd
      have hxc0 := hx.cell 0 _ rfl
      have hxf0 := hx.frozen 0
      have hxc1 := hx.cell 1 _ rfl
      have hxf1 := hx.frozen 1
      have hxc2 := hx.cell 2 _ rfl
      have hxf2 := hx.frozen 2
      go_wp2_with fail
      refine (hTL _).mono ?_
      rintro _ _ ⟨rfl, rfl⟩
      go_wp2_with fail
      refine (hTR _).mono ?_
      rintro _ _ ⟨rfl, rfl⟩
      by_cases hz : C.size = 0
      · have hCz := emp_of hz
        have hV := Lib.hid (show numVal neg ip fr (powP sg pw) = ((false, [], 0), 0) by
          rw [numVal, if_pos (List.eq_nil_of_length_eq_zero (by have := SC.out; omega))])
        clear hz
        subst hCz
        go_wp2
        refine bodyPost_ret (v := numOut ((false, [], 0), 0)) (by simp [results, Tryd.results10, go_sem, numOut, strL, hxc0, hxc1, hxc2]) rfl ⟨by rw [hV.out], ?_⟩
        (repeat' (first | (with_reducible refine Below.setCell ?_ ?_ _) | (with_reducible refine Below.alloc ?_ ?_ _) | (with_reducible refine Below.drew ?_) | (with_reducible refine below_drewN ?_ _) | (with_reducible assumption) | (with_reducible exact Below.refl _ _) | (simp only [World.size_alloc, World.size_setCell, World.size_drew]; done) | (simp only [World.size_alloc, World.size_setCell, World.size_drew]; omega) | omega))
      · have hCn := ne_emp hz
        have hR := fun W => numRight_any neg C E W (by omega)
        have hV := Lib.hid (show numVal neg ip fr (powP sg pw) = if numR neg C E then ((neg, valC ip fr, E), 0) else ((false, [], 0), 4) by
          have hc0 : valC ip fr ≠ [] := fun e => hz (by rw [SC.out, e]; rfl)
          have hEE : valE ip fr (powP sg pw) = E := by have := SC.out; have := SD.out; have := hP.out; (try have := hFl.out); unfold valE; omega
          rw [numVal, if_neg hc0, hEE, show (⟨(valC ip fr).toArray⟩ : ByteArray) = C from HC.out])
        have hE2 := Lib.hid hE
        have hE' := hE.symm
        clear hz hE
        go_wp2_with fail
        refine (hR _).mono ?_
        clear hR
        rintro _ w2 ⟨rfl, hb2⟩
        have hx1 := (hx.alloc (.cells #[.bool neg, .string C, .int .i64 E] 24)).below hb2 (hx.alloc _).lt
        have hy1 := (Cells.new w4 #[.bool neg, .string C, .int .i64 E] 24).below hb2 (Cells.new _ _ _).lt
        have hb3 := (hb.alloc hb.size (.cells #[.bool neg, .string C, .int .i64 E] 24)).trans (hb2.mono (by simp only [World.size_alloc]; have := hb.size; omega))
        have hsz := hb.size
        have hne3 : w.heap.size ≠ w4.heap.size := fun e => by have := hx.lt; omega
        clear hb2 hxc0 hxc1 hxc2 hxf0 hxf1 hxf2
        have hx1c0 := hx1.cell 0 _ rfl
        have hx1f0 := hx1.frozen 0
        have hx1c1 := hx1.cell 1 _ rfl
        have hx1f1 := hx1.frozen 1
        have hx1c2 := hx1.cell 2 _ rfl
        have hx1f2 := hx1.frozen 2
        have hy1c0 := hy1.cell 0 _ rfl
        have hy1f0 := hy1.frozen 0
        have hy1c1 := hy1.cell 1 _ rfl
        have hy1f1 := hy1.frozen 1
        have hy1c2 := hy1.cell 2 _ rfl
        have hy1f2 := hy1.frozen 2
        by_cases hr : numR neg C E = true
        · have hV2 := Lib.hid (show numVal neg ip fr (powP sg pw) = ((neg, valC ip fr, E), 0) by rw [hV.out, if_pos hr])
          have hCl := fun W => clone_any C W (by omega)
          clear hV
          go_wp2_with fail
          refine (hCl _).mono ?_
          rintro _ w3 ⟨rfl, hb4⟩
          have hx2 := hx1.below hb4 hx1.lt
          have hy2 := hy1.below hb4 hy1.lt
          have hb5 := hb3.trans (hb4.mono hb3.size)
          have hsz2 := hb5.size
          clear hb4 hx1c0 hx1c1 hx1c2 hx1f0 hx1f1 hx1f2 hy1c0 hy1c1 hy1c2 hy1f0 hy1f1 hy1f2
          have hx2c0 := hx2.cell 0 _ rfl
          have hx2f0 := hx2.frozen 0
          have hx2c1 := hx2.cell 1 _ rfl
          have hx2f1 := hx2.frozen 1
          have hx2c2 := hx2.cell 2 _ rfl
          have hx2f2 := hx2.frozen 2
          have hy2c0 := hy2.cell 0 _ rfl
          have hy2f0 := hy2.frozen 0
          have hy2c1 := hy2.cell 1 _ rfl
          have hy2f1 := hy2.frozen 1
          have hy2c2 := hy2.cell 2 _ rfl
          have hy2f2 := hy2.frozen 2
          go_wp2
          have hCe := HC.out
          refine bodyPost_ret (v := numOut ((neg, valC ip fr, E), 0)) (by simp [results, Tryd.results10, go_sem, numOut, hCe, hx2c0, hx2c1, hx2c2]) rfl ⟨by rw [hV2.out], ?_⟩
          (repeat' (first | (with_reducible refine Below.setCell ?_ ?_ _) | (with_reducible refine Below.alloc ?_ ?_ _) | (with_reducible refine Below.drew ?_) | (with_reducible refine below_drewN ?_ _) | (with_reducible assumption) | (with_reducible exact Below.refl _ _) | (simp only [World.size_alloc, World.size_setCell, World.size_drew]; done) | (simp only [World.size_alloc, World.size_setCell, World.size_drew]; omega) | omega))
        · have hV2 := Lib.hid (show numVal neg ip fr (powP sg pw) = ((false, [], 0), 4) by rw [hV.out, if_neg hr])
          have hr' : numR neg C E = false := by simpa using hr
          clear hV hr
          go_wp2
          refine bodyPost_ret (v := numOut ((false, [], 0), 4)) (by simp [results, Tryd.results10, go_sem, numOut, strL, hx1c0, hx1c1, hx1c2]) rfl ⟨by rw [hV2.out], ?_⟩
          (repeat' (first | (with_reducible refine Below.setCell ?_ ?_ _) | (with_reducible refine Below.alloc ?_ ?_ _) | (with_reducible refine Below.drew ?_) | (with_reducible refine below_drewN ?_ _) | (with_reducible assumption) | (with_reducible exact Below.refl _ _) | (simp only [World.size_alloc, World.size_setCell, World.size_drew]; done) | (simp only [World.size_alloc, World.size_setCell, World.size_drew]; omega) | omega))
  · obtain ⟨m1, ⟨m, hmk⟩, m3, m4⟩ := h.mark_some hm
    subst hmk
    have hI := fun W => hIA W _ m1
    have hsT : (strL (frontT ip fr ++ ([m] ++ (sg ++ pw)))).size = (frontT ip fr ++ ([m] ++ (sg ++ pw))).length := size_strL _
    have hPw : ∀ W, Calls Tryd.prog 27 #[.string (strL (sg ++ pw))] W fun e w' => e = .returned (.int .i64 p) ∧ W = w' := fun W => by
      rw [← hp]
      refine powerOf_any _ sg pw W rfl m3 h.dpw m4 ?_
      rw [size_strL]
      simp only [List.length_append] at l2 ⊢
      omega
    have hs1 : (strL (frontT ip fr ++ ([m] ++ (sg ++ pw)))).extract ((frontT ip fr).length + 1) (strL (frontT ip fr ++ ([m] ++ (sg ++ pw)))).size = strL (sg ++ pw) := by
      rw [hsT, strL_ext, List.take_length, ← List.drop_drop, List.drop_left]; rfl
    have hs2 : (strL (frontT ip fr ++ ([m] ++ (sg ++ pw)))).extract 0 (frontT ip fr).length = strL (frontT ip fr) := by
      rw [strL_ext, List.take_left]; rfl
    have hi1 : (frontT ip fr).length + 1 ≤ (strL (frontT ip fr ++ ([m] ++ (sg ++ pw)))).size := by rw [hsT]; simp
    have hi0 : (frontT ip fr).length ≤ (strL (frontT ip fr ++ ([m] ++ (sg ++ pw)))).size := by omega
    have hiT : (strL (frontT ip fr ++ ([m] ++ (sg ++ pw)))).size ≤ 1048576 := by omega
    generalize strL (frontT ip fr ++ ([m] ++ (sg ++ pw))) = T at *
    generalize strL (sg ++ pw) = P at *
    obtain ⟨q, hq⟩ : ∃ q, (frontT ip fr).length = q := ⟨_, rfl⟩
    rw [hq] at hI hs1 hs2 hi1 hi0
    clear hIA m1 m3 m4 hsT l2
    by_cases hf : fr = []
    · obtain ⟨p1, p2⟩ := h.point_none hf
      have hB : ∀ W, Calls Tryd.prog 28 #[.string (strL (frontT ip fr)), .int .u8 46] W fun e w' => e = .returned (.int .i64 (-1)) ∧ W = w' := fun W => (Go.Proofs.Tryd.strings_IndexByte (strL (frontT ip fr)) 46 W).mono fun e w' ⟨h1, h2⟩ => ⟨by rw [h1]; show Ending.returned (.int .i64 (Lib.indexByte (frontT ip fr) 46)) = _; rw [p1], h2.symm⟩
      rw [p2] at hB hs2
      have hdl : fr.length = 0 := by rw [hf]; rfl
      clear hq l3
      have szD : (strL (valD ip fr)).size = (valD ip fr).length := size_strL _
      have szC : (strL (valC ip fr)).size = (valC ip fr).length := size_strL _
      clear h hm hf p1 p2 hp l4
      generalize strL (ip ++ fr) = G at *
      generalize hD : strL (valD ip fr) = D at hTL hTR szD
      generalize hCe : strL (valC ip fr) = C at hTR szC
      have HC := Lib.hid hCe
      have SD := Lib.hid szD
      have SC := Lib.hid szC
      have hCD : C.size ≤ D.size := by omega
      have hDm : D.size ≤ 1048576 := by omega
      clear hD hCe szD szC hDL hCL
      obtain ⟨E, hE⟩ : ∃ E : Int, E = p + ((D.size : Int) - (C.size : Int)) := ⟨_, rfl⟩
      have hx0 : ∀ n, Cells ((w.alloc (.cells #[.bool false, .string ⟨#[]⟩, .int .i64 0] 24)).drewN n) w.heap.size #[.bool false, .string ⟨#[]⟩, .int .i64 0] 24 := fun n => (Cells.new w _ _).drewN n
      have hb0 : ∀ n, Below w.heap.size w ((w.alloc (.cells #[.bool false, .string ⟨#[]⟩, .int .i64 0] 24)).drewN n) := fun n => below_drewN ((Below.refl _ w).alloc (Nat.le_refl _) _) n
      go_enter Tryd.func10, Tryd.ntmps10
      go_wp2_with fail
      refine hS.mono ?_
      clear hS
      rintro _ w1 ⟨rfl, n, rfl⟩
      go_wp2_with fail
      refine (hC _).mono ?_
      rintro _ _ ⟨rfl, rfl⟩
      go_wp2_with fail
      refine (hI _).mono ?_
      rintro _ w1 ⟨rfl, hb⟩
      have hx := (hx0 n).below hb (hx0 n).lt
      have hb := (hb0 n).trans (hb.mono (hb0 n).size)
      clear hx0 hb0
      have hxc0 := hx.cell 0 _ rfl
      have hxf0 := hx.frozen 0
      have hxc1 := hx.cell 1 _ rfl
      have hxf1 := hx.frozen 1
      have hxc2 := hx.cell 2 _ rfl
      have hxf2 := hx.frozen 2
      go_wp2_with fail
      refine (hPw _).mono ?_
      rintro _ _ ⟨rfl, rfl⟩
      go_wp2_with fail
      refine (hB _).mono ?_
      rintro _ _ ⟨rfl, rfl⟩
      go_wp2_with fail
      refine (hTL _).mono ?_
      rintro _ _ ⟨rfl, rfl⟩
      go_wp2_with fail
      refine (hTR _).mono ?_
      rintro _ _ ⟨rfl, rfl⟩
      by_cases hz : C.size = 0
      · have hCz := emp_of hz
        have hV := Lib.hid (show numVal neg ip fr (powP sg pw) = ((false, [], 0), 0) by
          rw [numVal, if_pos (List.eq_nil_of_length_eq_zero (by have := SC.out; omega))])
        clear hz
        subst hCz
        go_wp2
        refine bodyPost_ret (v := numOut ((false, [], 0), 0)) (by simp [results, Tryd.results10, go_sem, numOut, strL, hxc0, hxc1, hxc2]) rfl ⟨by rw [hV.out], ?_⟩
        (repeat' (first | (with_reducible refine Below.setCell ?_ ?_ _) | (with_reducible refine Below.alloc ?_ ?_ _) | (with_reducible refine Below.drew ?_) | (with_reducible refine below_drewN ?_ _) | (with_reducible assumption) | (with_reducible exact Below.refl _ _) | (simp only [World.size_alloc, World.size_setCell, World.size_drew]; done) | (simp only [World.size_alloc, World.size_setCell, World.size_drew]; omega) | omega))
      · have hCn := ne_emp hz
        have hR := fun W => numRight_any neg C E W (by omega)
        have hV := Lib.hid (show numVal neg ip fr (powP sg pw) = if numR neg C E then ((neg, valC ip fr, E), 0) else ((false, [], 0), 4) by
          have hc0 : valC ip fr ≠ [] := fun e => hz (by rw [SC.out, e]; rfl)
          have hEE : valE ip fr (powP sg pw) = E := by have := SC.out; have := SD.out; have := hP.out; (try have := hFl.out); unfold valE; omega
          rw [numVal, if_neg hc0, hEE, show (⟨(valC ip fr).toArray⟩ : ByteArray) = C from HC.out])
        have hE2 := Lib.hid hE
        have hE' := hE.symm
        clear hz hE
        go_wp2_with fail
        refine (hR _).mono ?_
        clear hR
        rintro _ w2 ⟨rfl, hb2⟩
        have hx1 := (hx.alloc (.cells #[.bool neg, .string C, .int .i64 E] 24)).below hb2 (hx.alloc _).lt
        have hy1 := (Cells.new w1 #[.bool neg, .string C, .int .i64 E] 24).below hb2 (Cells.new _ _ _).lt
        have hb3 := (hb.alloc hb.size (.cells #[.bool neg, .string C, .int .i64 E] 24)).trans (hb2.mono (by simp only [World.size_alloc]; have := hb.size; omega))
        have hsz := hb.size
        have hne3 : w.heap.size ≠ w1.heap.size := fun e => by have := hx.lt; omega
        clear hb2 hxc0 hxc1 hxc2 hxf0 hxf1 hxf2
        have hx1c0 := hx1.cell 0 _ rfl
        have hx1f0 := hx1.frozen 0
        have hx1c1 := hx1.cell 1 _ rfl
        have hx1f1 := hx1.frozen 1
        have hx1c2 := hx1.cell 2 _ rfl
        have hx1f2 := hx1.frozen 2
        have hy1c0 := hy1.cell 0 _ rfl
        have hy1f0 := hy1.frozen 0
        have hy1c1 := hy1.cell 1 _ rfl
        have hy1f1 := hy1.frozen 1
        have hy1c2 := hy1.cell 2 _ rfl
        have hy1f2 := hy1.frozen 2
        by_cases hr : numR neg C E = true
        · have hV2 := Lib.hid (show numVal neg ip fr (powP sg pw) = ((neg, valC ip fr, E), 0) by rw [hV.out, if_pos hr])
          have hCl := fun W => clone_any C W (by omega)
          clear hV
          go_wp2_with fail
          refine (hCl _).mono ?_
          rintro _ w3 ⟨rfl, hb4⟩
          have hx2 := hx1.below hb4 hx1.lt
          have hy2 := hy1.below hb4 hy1.lt
          have hb5 := hb3.trans (hb4.mono hb3.size)
          have hsz2 := hb5.size
          clear hb4 hx1c0 hx1c1 hx1c2 hx1f0 hx1f1 hx1f2 hy1c0 hy1c1 hy1c2 hy1f0 hy1f1 hy1f2
          have hx2c0 := hx2.cell 0 _ rfl
          have hx2f0 := hx2.frozen 0
          have hx2c1 := hx2.cell 1 _ rfl
          have hx2f1 := hx2.frozen 1
          have hx2c2 := hx2.cell 2 _ rfl
          have hx2f2 := hx2.frozen 2
          have hy2c0 := hy2.cell 0 _ rfl
          have hy2f0 := hy2.frozen 0
          have hy2c1 := hy2.cell 1 _ rfl
          have hy2f1 := hy2.frozen 1
          have hy2c2 := hy2.cell 2 _ rfl
          have hy2f2 := hy2.frozen 2
          go_wp2
          have hCe := HC.out
          refine bodyPost_ret (v := numOut ((neg, valC ip fr, E), 0)) (by simp [results, Tryd.results10, go_sem, numOut, hCe, hx2c0, hx2c1, hx2c2]) rfl ⟨by rw [hV2.out], ?_⟩
          (repeat' (first | (with_reducible refine Below.setCell ?_ ?_ _) | (with_reducible refine Below.alloc ?_ ?_ _) | (with_reducible refine Below.drew ?_) | (with_reducible refine below_drewN ?_ _) | (with_reducible assumption) | (with_reducible exact Below.refl _ _) | (simp only [World.size_alloc, World.size_setCell, World.size_drew]; done) | (simp only [World.size_alloc, World.size_setCell, World.size_drew]; omega) | omega))
        · have hV2 := Lib.hid (show numVal neg ip fr (powP sg pw) = ((false, [], 0), 4) by rw [hV.out, if_neg hr])
          have hr' : numR neg C E = false := by simpa using hr
          clear hV hr
          go_wp2
          refine bodyPost_ret (v := numOut ((false, [], 0), 4)) (by simp [results, Tryd.results10, go_sem, numOut, strL, hx1c0, hx1c1, hx1c2]) rfl ⟨by rw [hV2.out], ?_⟩
          (repeat' (first | (with_reducible refine Below.setCell ?_ ?_ _) | (with_reducible refine Below.alloc ?_ ?_ _) | (with_reducible refine Below.drew ?_) | (with_reducible refine below_drewN ?_ _) | (with_reducible assumption) | (with_reducible exact Below.refl _ _) | (simp only [World.size_alloc, World.size_setCell, World.size_drew]; done) | (simp only [World.size_alloc, World.size_setCell, World.size_drew]; omega) | omega))
    · obtain ⟨p1, p2⟩ := h.point_some hf
      have hB : ∀ W, Calls Tryd.prog 28 #[.string (strL (frontT ip fr)), .int .u8 46] W fun e w' => e = .returned (.int .i64 (ip.length : Nat)) ∧ W = w' := fun W => (Go.Proofs.Tryd.strings_IndexByte (strL (frontT ip fr)) 46 W).mono fun e w' ⟨h1, h2⟩ => ⟨by rw [h1]; show Ending.returned (.int .i64 (Lib.indexByte (frontT ip fr) 46)) = _; rw [p1], h2.symm⟩
      have hl4 := l4 hf
      clear hq
      have hsF : (strL (frontT ip fr)).size = (frontT ip fr).length := size_strL _
      have hsl : (strL (frontT ip fr)).extract 0 ip.length ++ (strL (frontT ip fr)).extract (ip.length + 1) (strL (frontT ip fr)).size = strL (ip ++ fr) := by
        refine str_ext ?_
        rw [app_list, ext_list, ext_list, size_strL, strL_list, List.take_length, p2, strL_list]
        have e1 : (ip ++ 46 :: fr).drop (ip.length + 1) = fr := by rw [← List.drop_drop, List.drop_left]; rfl
        rw [e1, List.take_left]
        simp
      generalize strL (frontT ip fr) = F at *
      have hF1 : ip.length ≤ F.size := by omega
      have hF2 : ip.length + 1 ≤ F.size := by omega
      have hF3 : F.size ≤ 1048576 := by omega
      have hFl : Hid (F.size = ip.length + fr.length + 1) := Lib.hid (by omega)
      clear hl4 hsF
      have szD : (strL (valD ip fr)).size = (valD ip fr).length := size_strL _
      have szC : (strL (valC ip fr)).size = (valC ip fr).length := size_strL _
      clear h hm hf p1 p2 hp l4
      generalize strL (ip ++ fr) = G at *
      generalize hD : strL (valD ip fr) = D at hTL hTR szD
      generalize hCe : strL (valC ip fr) = C at hTR szC
      have HC := Lib.hid hCe
      have SD := Lib.hid szD
      have SC := Lib.hid szC
      have hCD : C.size ≤ D.size := by omega
      have hDm : D.size ≤ 1048576 := by omega
      clear hD hCe szD szC hDL hCL
      obtain ⟨E, hE⟩ : ∃ E : Int, E = p - ((F.size : Int) - (ip.length : Int) - 1) + ((D.size : Int) - (C.size : Int)) := ⟨_, rfl⟩
      have hx0 : ∀ n, Cells ((w.alloc (.cells #[.bool false, .string ⟨#[]⟩, .int .i64 0] 24)).drewN n) w.heap.size #[.bool false, .string ⟨#[]⟩, .int .i64 0] 24 := fun n => (Cells.new w _ _).drewN n
      have hb0 : ∀ n, Below w.heap.size w ((w.alloc (.cells #[.bool false, .string ⟨#[]⟩, .int .i64 0] 24)).drewN n) := fun n => below_drewN ((Below.refl _ w).alloc (Nat.le_refl _) _) n
      go_enter Tryd.func10, Tryd.ntmps10
      go_wp2_with fail
      refine hS.mono ?_
      clear hS
      rintro _ w1 ⟨rfl, n, rfl⟩
      go_wp2_with fail
      refine (hC _).mono ?_
      rintro _ _ ⟨rfl, rfl⟩
      go_wp2_with fail
      refine (hI _).mono ?_
      rintro _ w1 ⟨rfl, hb⟩
      have hx := (hx0 n).below hb (hx0 n).lt
      have hb := (hb0 n).trans (hb.mono (hb0 n).size)
      clear hx0 hb0
      have hxc0 := hx.cell 0 _ rfl
      have hxf0 := hx.frozen 0
      have hxc1 := hx.cell 1 _ rfl
      have hxf1 := hx.frozen 1
      have hxc2 := hx.cell 2 _ rfl
      have hxf2 := hx.frozen 2
      go_wp2_with fail
      refine (hPw _).mono ?_
      rintro _ _ ⟨rfl, rfl⟩
      go_wp2_with fail
      refine (hB _).mono ?_
      rintro _ _ ⟨rfl, rfl⟩
      go_wp2_with fail
      go_region
      have hxd := hx.drew
      have hbd : Below w.heap.size w w1.drew := Below.drew hb
      clear hx hb hxc0 hxc1 hxc2 hxf0 hxf1 hxf2
      generalize w1.drew = w4 at hxd hbd ⊢
      have hx := hxd
      have hb := hbd
      clear hxd hbd
      have hxc0 := hx.cell 0 _ rfl
      have hxf0 := hx.frozen 0
      have hxc1 := hx.cell 1 _ rfl
      have hxf1 := hx.frozen 1
      have hxc2 := hx.cell 2 _ rfl
      have hxf2 := hx.frozen 2
      go_wp2_with fail
      refine (hTL _).mono ?_
      rintro _ _ ⟨rfl, rfl⟩
      go_wp2_with fail
      refine (hTR _).mono ?_
      rintro _ _ ⟨rfl, rfl⟩
      by_cases hz : C.size = 0
      · have hCz := emp_of hz
        have hV := Lib.hid (show numVal neg ip fr (powP sg pw) = ((false, [], 0), 0) by
          rw [numVal, if_pos (List.eq_nil_of_length_eq_zero (by have := SC.out; omega))])
        clear hz
        subst hCz
        go_wp2
        refine bodyPost_ret (v := numOut ((false, [], 0), 0)) (by simp [results, Tryd.results10, go_sem, numOut, strL, hxc0, hxc1, hxc2]) rfl ⟨by rw [hV.out], ?_⟩
        (repeat' (first | (with_reducible refine Below.setCell ?_ ?_ _) | (with_reducible refine Below.alloc ?_ ?_ _) | (with_reducible refine Below.drew ?_) | (with_reducible refine below_drewN ?_ _) | (with_reducible assumption) | (with_reducible exact Below.refl _ _) | (simp only [World.size_alloc, World.size_setCell, World.size_drew]; done) | (simp only [World.size_alloc, World.size_setCell, World.size_drew]; omega) | omega))
      · have hCn := ne_emp hz
        have hR := fun W => numRight_any neg C E W (by omega)
        have hV := Lib.hid (show numVal neg ip fr (powP sg pw) = if numR neg C E then ((neg, valC ip fr, E), 0) else ((false, [], 0), 4) by
          have hc0 : valC ip fr ≠ [] := fun e => hz (by rw [SC.out, e]; rfl)
          have hEE : valE ip fr (powP sg pw) = E := by have := SC.out; have := SD.out; have := hP.out; (try have := hFl.out); unfold valE; omega
          rw [numVal, if_neg hc0, hEE, show (⟨(valC ip fr).toArray⟩ : ByteArray) = C from HC.out])
        have hE2 := Lib.hid hE
        have hE' := hE.symm
        clear hz hE
        go_wp2_with fail
        refine (hR _).mono ?_
        clear hR
        rintro _ w2 ⟨rfl, hb2⟩
        have hx1 := (hx.alloc (.cells #[.bool neg, .string C, .int .i64 E] 24)).below hb2 (hx.alloc _).lt
        have hy1 := (Cells.new w4 #[.bool neg, .string C, .int .i64 E] 24).below hb2 (Cells.new _ _ _).lt
        have hb3 := (hb.alloc hb.size (.cells #[.bool neg, .string C, .int .i64 E] 24)).trans (hb2.mono (by simp only [World.size_alloc]; have := hb.size; omega))
        have hsz := hb.size
        have hne3 : w.heap.size ≠ w4.heap.size := fun e => by have := hx.lt; omega
        clear hb2 hxc0 hxc1 hxc2 hxf0 hxf1 hxf2
        have hx1c0 := hx1.cell 0 _ rfl
        have hx1f0 := hx1.frozen 0
        have hx1c1 := hx1.cell 1 _ rfl
        have hx1f1 := hx1.frozen 1
        have hx1c2 := hx1.cell 2 _ rfl
        have hx1f2 := hx1.frozen 2
        have hy1c0 := hy1.cell 0 _ rfl
        have hy1f0 := hy1.frozen 0
        have hy1c1 := hy1.cell 1 _ rfl
        have hy1f1 := hy1.frozen 1
        have hy1c2 := hy1.cell 2 _ rfl
        have hy1f2 := hy1.frozen 2
        by_cases hr : numR neg C E = true
        · have hV2 := Lib.hid (show numVal neg ip fr (powP sg pw) = ((neg, valC ip fr, E), 0) by rw [hV.out, if_pos hr])
          have hCl := fun W => clone_any C W (by omega)
          clear hV
          go_wp2_with fail
          refine (hCl _).mono ?_
          rintro _ w3 ⟨rfl, hb4⟩
          have hx2 := hx1.below hb4 hx1.lt
          have hy2 := hy1.below hb4 hy1.lt
          have hb5 := hb3.trans (hb4.mono hb3.size)
          have hsz2 := hb5.size
          clear hb4 hx1c0 hx1c1 hx1c2 hx1f0 hx1f1 hx1f2 hy1c0 hy1c1 hy1c2 hy1f0 hy1f1 hy1f2
          have hx2c0 := hx2.cell 0 _ rfl
          have hx2f0 := hx2.frozen 0
          have hx2c1 := hx2.cell 1 _ rfl
          have hx2f1 := hx2.frozen 1
          have hx2c2 := hx2.cell 2 _ rfl
          have hx2f2 := hx2.frozen 2
          have hy2c0 := hy2.cell 0 _ rfl
          have hy2f0 := hy2.frozen 0
          have hy2c1 := hy2.cell 1 _ rfl
          have hy2f1 := hy2.frozen 1
          have hy2c2 := hy2.cell 2 _ rfl
          have hy2f2 := hy2.frozen 2
          go_wp2
          have hCe := HC.out
          refine bodyPost_ret (v := numOut ((neg, valC ip fr, E), 0)) (by simp [results, Tryd.results10, go_sem, numOut, hCe, hx2c0, hx2c1, hx2c2]) rfl ⟨by rw [hV2.out], ?_⟩
          (repeat' (first | (with_reducible refine Below.setCell ?_ ?_ _) | (with_reducible refine Below.alloc ?_ ?_ _) | (with_reducible refine Below.drew ?_) | (with_reducible refine below_drewN ?_ _) | (with_reducible assumption) | (with_reducible exact Below.refl _ _) | (simp only [World.size_alloc, World.size_setCell, World.size_drew]; done) | (simp only [World.size_alloc, World.size_setCell, World.size_drew]; omega) | omega))
        · have hV2 := Lib.hid (show numVal neg ip fr (powP sg pw) = ((false, [], 0), 4) by rw [hV.out, if_neg hr])
          have hr' : numR neg C E = false := by simpa using hr
          clear hV hr
          go_wp2
          refine bodyPost_ret (v := numOut ((false, [], 0), 4)) (by simp [results, Tryd.results10, go_sem, numOut, strL, hx1c0, hx1c1, hx1c2]) rfl ⟨by rw [hV2.out], ?_⟩
          (repeat' (first | (with_reducible refine Below.setCell ?_ ?_ _) | (with_reducible refine Below.alloc ?_ ?_ _) | (with_reducible refine Below.drew ?_) | (with_reducible refine below_drewN ?_ _) | (with_reducible assumption) | (with_reducible exact Below.refl _ _) | (simp only [World.size_alloc, World.size_setCell, World.size_drew]; done) | (simp only [World.size_alloc, World.size_setCell, World.size_drew]; omega) | omega))
end Go.Proofs.YthiggalnjjcejaaDoor
