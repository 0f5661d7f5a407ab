/- The walks of Of (layer 6), of both sides. -/
import Derived.Test.YthiggalnjjcejaaDoorNuWp
import Derived.Test.YthiggalnjjcejaaDoorNuFu
import Derived.Test.YthiggalnjjcejaaDoorNuE
import Derived.Test.YthiggalnjjcejaaDoorNuY
namespace Go.Proofs.YthiggalnjjcejaaDoor
set_option linter.unusedSimpArgs false
set_option linter.unusedVariables false
open Go.RowKit Go.Tab

set_option maxHeartbeats 4000000 in
set_option maxRecDepth 100000 in
theorem Of_any (v : Nat) (hv : v < 18446744073709551616) (w : World) (hT : NumTab w) :
    Calls Tryd.prog 23 #[.int .u64 v] w fun e w' => e = .returned (ofV v) ∧ Below w.heap.size w w' := by
  have hF := fun W h => FormatUint_any v hv W h
  obtain ⟨S, hS⟩ : ∃ S, strL (Lib.decDigits v) = S := ⟨_, rfl⟩
  rw [hS] at hF
  have hSs : S.size ≤ 20 := by rw [← hS, size_strL]; exact dec_len hv
  have hTR : ∀ W, Calls Tryd.prog 30 #[.string S, .string ⟨#[48]⟩] W fun e w' => e = .returned (.string (strL (cutD v))) ∧ W = w' := fun W => (Go.Proofs.Tryd.strings_TrimRight_one S 48 (by decide) W (by omega)).mono fun _ _ h => ⟨by rw [h.1, ← hS]; rfl, h.2.symm⟩
  have hb0 : Below w.heap.size w (w.alloc (.cells #[.bool false, .string ⟨#[]⟩, .int .i64 0] 24)) := (Below.refl _ w).alloc (Nat.le_refl _) _
  have hx0 := Cells.new w #[.bool false, .string ⟨#[]⟩, .int .i64 0] 24
  have hF1 := hF _ (hT.below hb0).pow
  clear hF
  by_cases h0 : v = 0
  · have hc : strL (cutD v) = ⟨#[]⟩ := by rw [h0, cutD, dec0]; rfl
    have hO := Lib.hid (show ofV v = .agg #[.bool false, .string ⟨#[]⟩, .int .i64 0] by rw [ofV, if_pos h0, if_pos h0])
    rw [hc] at hTR
    clear hc h0 hv hS
    go_enter Tryd.func23, Tryd.ntmps23
    go_wp2_with fail
    refine hF1.mono ?_
    clear hF1
    rintro _ w1 ⟨rfl, hb⟩
    have hx := hx0.below hb hx0.lt
    have hb1 := hb0.trans (hb.mono hb0.size)
    clear hb hx0 hb0
    have hxc0 := hx.cell 0 _ rfl
    have hxf0 := hx.frozen 0
    have hxc1 := hx.cell 1 _ rfl
    have hxf1 := hx.frozen 1
    have hxc2 := hx.cell 2 _ rfl
    have hxf2 := hx.frozen 2
    go_wp2_with fail
    refine (hTR _).mono ?_
    rintro _ _ ⟨rfl, rfl⟩
    go_wp2
    refine bodyPost_ret (v := .agg #[.bool false, .string ⟨#[]⟩, .int .i64 0]) (by simp [results, Tryd.results23, go_sem, hxc0, hxc1, hxc2]) rfl ⟨by rw [hO.out], ?_⟩
    (repeat' (first | (with_reducible refine Below.setCell ?_ ?_ _) | (with_reducible refine Below.alloc ?_ ?_ _) | (with_reducible refine Below.drew ?_) | (with_reducible refine below_drewN ?_ _) | (with_reducible assumption) | (with_reducible exact Below.refl _ _) | (simp only [World.size_alloc, World.size_setCell, World.size_drew]; done) | (simp only [World.size_alloc, World.size_setCell, World.size_drew]; omega) | omega))
  · obtain ⟨C, hC⟩ : ∃ C, strL (cutD v) = C := ⟨_, rfl⟩
    obtain ⟨e, he⟩ : ∃ e : Int, (S.size : Int) - (C.size : Int) = e := ⟨_, rfl⟩
    have hle : C.size ≤ S.size := by rw [← hC, ← hS, size_strL, size_strL]; exact trimR_le _
    have hE : cutE v = e := by
      have s1 : S.size = (Lib.decDigits v).length := by rw [← hS, size_strL]
      have s2 : C.size = (cutD v).length := by rw [← hC, size_strL]
      rw [← he, cutE]
      omega
    have hO := Lib.hid (show ofV v = .agg #[.bool false, .string C, .int .i64 e] by rw [ofV, if_neg h0, if_neg h0, hC, hE])
    clear hE
    have hCn : C.toList.isEmpty = false := ne_emp (by rw [← hC, size_strL]; exact len_pos (cut_right h0 hv).ne)
    rw [hC] at hTR
    clear hC h0 hv hS
    go_enter Tryd.func23, Tryd.ntmps23
    go_wp2_with fail
    refine hF1.mono ?_
    clear hF1
    rintro _ w1 ⟨rfl, hb⟩
    have hx := hx0.below hb hx0.lt
    have hb1 := hb0.trans (hb.mono hb0.size)
    clear hb hx0 hb0
    have hxc0 := hx.cell 0 _ rfl
    have hxf0 := hx.frozen 0
    have hxc1 := hx.cell 1 _ rfl
    have hxf1 := hx.frozen 1
    have hxc2 := hx.cell 2 _ rfl
    have hxf2 := hx.frozen 2
    go_wp2_with fail
    refine (hTR _).mono ?_
    rintro _ _ ⟨rfl, rfl⟩
    go_wp2
    refine bodyPost_ret (v := .agg #[.bool false, .string C, .int .i64 e]) (by simp [results, Tryd.results23, go_sem, hxc0, hxc1, hxc2]) rfl ⟨by rw [hO.out], ?_⟩
    (repeat' (first | (with_reducible refine Below.setCell ?_ ?_ _) | (with_reducible refine Below.alloc ?_ ?_ _) | (with_reducible refine Below.drew ?_) | (with_reducible refine below_drewN ?_ _) | (with_reducible assumption) | (with_reducible exact Below.refl _ _) | (simp only [World.size_alloc, World.size_setCell, World.size_drew]; done) | (simp only [World.size_alloc, World.size_setCell, World.size_drew]; omega) | omega))

theorem par0 : NumTxt [48] false [48] [] [] [] [] ∧ numVal false [48] [] (powQ [] []) = ((false, [], 0), 0) := ⟨⟨rfl, rfl, rfl, rfl, by simp, fun _ => rfl, .inl ⟨rfl, rfl, rfl⟩⟩, rfl⟩
theorem parV {v : Nat} (hv : v < 18446744073709551616) (h0 : v ≠ 0) : NumTxt (Lib.decDigits v) false (Lib.decDigits v) [] [] [] [] ∧ numVal false (Lib.decDigits v) [] (powQ [] []) = ((false, cutD v, cutE v), 0) := by
  refine ⟨⟨by simp, dec_all v, rfl, rfl, dec_ne v, fun e => absurd e (dec_head v h0), .inl ⟨rfl, rfl, rfl⟩⟩, ?_⟩
  have := val_ways (u := v) (ip := Lib.decDigits v) (fr := []) (p := 0) hv 0 0 (by simp [zeros]) (by simp)
  rw [valU, if_neg h0] at this
  exact this
/-- The digits are told from the right: n is left, s is told. -/
def Told (v n : Nat) (s : Bs) : Prop := (n = 0 ∧ s = Lib.decDigits v) ∨ (n ≠ 0 ∧ Lib.decDigits n ++ s = Lib.decDigits v)
theorem Told.step {v n : Nat} {s : Bs} (h : Told v n s) (hn : n ≠ 0) : Told v (n / 10) (UInt8.ofNat (48 + n % 10) :: s) := by
  rcases h with ⟨h1, _⟩ | ⟨_, h2⟩
  · exact absurd h1 hn
  · by_cases h9 : n < 10
    · refine .inl ⟨by omega, ?_⟩
      rw [← h2, Lib.decDigits_one h9, show n % 10 = n by omega]; rfl
    · refine .inr ⟨by omega, ?_⟩
      rw [← h2, dec_step h9, List.append_assoc]; rfl
theorem Told.len {v n : Nat} {s : Bs} (h : Told v n s) (hv : v < 18446744073709551616) : s.length ≤ 20 := by
  have h1 := dec_len hv
  rcases h with ⟨_, rfl⟩ | ⟨_, h2⟩
  · exact h1
  · rw [← h2, List.length_append] at h1; omega

set_option maxHeartbeats 4000000 in
set_option maxRecDepth 100000 in
theorem rOf_any (v : Nat) (hv : v < 18446744073709551616) (w : World) :
    Calls Tryd.prog 24 #[.int .u64 v] w fun e w' => e = .returned (ofV v) ∧ Below w.heap.size w w' := by
  have hP0 : ∀ W, Calls Tryd.prog 11 #[.string ⟨#[48]⟩] W fun e w' => e = .returned (.tuple #[.agg #[.bool false, .string ⟨#[]⟩, .int .i64 0], .int .i64 0]) ∧ Below W.heap.size W w' := fun W => by
    have := rParse_good ⟨#[48]⟩ false [48] [] [] [] [] W (by decide) par0.1
    rw [par0.2] at this
    exact this
  have hb0 : Below w.heap.size w (w.alloc (.cells #[.bool false, .string ⟨#[]⟩, .int .i64 0] 24)) := (Below.refl _ w).alloc (Nat.le_refl _) _
  have hx0 := Cells.new w #[.bool false, .string ⟨#[]⟩, .int .i64 0] 24
  by_cases h0 : v = 0
  · have hO := Lib.hid (show ofV v = .agg #[.bool false, .string ⟨#[]⟩, .int .i64 0] by rw [ofV, if_pos h0, if_pos h0])
    subst h0
    clear hv
    go_enter Tryd.func24, Tryd.ntmps24
    go_wp2_with fail
    go_loop [0, 3] (fun n s => n = .int .u64 0 ∧ s = .string ⟨#[]⟩) (fun _ _ => 0)
    case atStart => exact ⟨rfl, rfl⟩
    case round =>
      obtain ⟨rfl, rfl⟩ := hrel
      go_wp2_with fail
      refine (hP0 _).mono ?_
      rintro _ w1 ⟨rfl, hb⟩
      have hx := hx0.below hb hx0.lt
      have hb1 := hb0.trans (hb.mono hb0.size)
      have hlt := hx.lt
      clear hb hx0 hb0
      have hxc0 := hx.cell 0 _ rfl
      have hxf0 := hx.frozen 0
      have hxc1 := hx.cell 1 _ rfl
      have hxf1 := hx.frozen 1
      have hxc2 := hx.cell 2 _ rfl
      have hxf2 := hx.frozen 2
      go_wp2
      refine bodyPost_ret (v := .agg #[.bool false, .string ⟨#[]⟩, .int .i64 0]) (by simp [results, Tryd.results24, go_sem, hxc0, hxc1, hxc2, hlt]) rfl ⟨by rw [hO.out], ?_⟩
      (repeat' (first | (with_reducible refine Below.setCell ?_ ?_ _) | (with_reducible refine Below.alloc ?_ ?_ _) | (with_reducible refine Below.drew ?_) | (with_reducible refine below_drewN ?_ _) | (with_reducible assumption) | (with_reducible exact Below.refl _ _) | (simp only [World.size_alloc, World.size_setCell, World.size_drew]; done) | (simp only [World.size_alloc, World.size_setCell, World.size_drew]; omega) | omega))
  · obtain ⟨S, hS⟩ : ∃ S, strL (Lib.decDigits v) = S := ⟨_, rfl⟩
    obtain ⟨C, hC⟩ : ∃ C, strL (cutD v) = C := ⟨_, rfl⟩
    obtain ⟨e, he⟩ : ∃ e, cutE v = e := ⟨_, rfl⟩
    have hO := Lib.hid (show ofV v = .agg #[.bool false, .string C, .int .i64 e] by rw [ofV, if_neg h0, if_neg h0, hC, he])
    have hSs : S.size ≤ 20 := by rw [← hS, size_strL]; exact dec_len hv
    have hSp : 0 < S.size := by rw [← hS, size_strL]; exact List.length_pos_iff.2 (dec_ne v)
    have hP : ∀ W, Calls Tryd.prog 11 #[.string S] W fun e' w' => e' = .returned (.tuple #[.agg #[.bool false, .string C, .int .i64 e], .int .i64 0]) ∧ Below W.heap.size W w' := fun W => by
      have := rParse_good S false (Lib.decDigits v) [] [] [] [] W (by omega) (by rw [← hS]; exact (parV hv h0).1)
      rw [(parV hv h0).2, he] at this
      rw [← hC]
      exact this
    have HV := Lib.hid hv
    have HT := Lib.hid (show Told v v [] from .inr ⟨h0, by simp⟩)
    have HS := Lib.hid hS
    clear hC he h0 hv hS
    go_enter Tryd.func24, Tryd.ntmps24
    go_wp2_with fail
    go_loopw [0, 3] (fun x y wr => ∃ (n : Nat) (s : Bs), x = .int .u64 n ∧ y = .string (strL s) ∧ n ≤ v ∧ Told v n s ∧ Cells wr w.heap.size #[.bool false, .string ⟨#[]⟩, .int .i64 0] 24 ∧ Below w.heap.size w wr) (fun x _ _ => (intOf x).toNat)
    case atStart => exact ⟨v, [], rfl, rfl, Nat.le_refl _, HT.out, hx0, hb0⟩
    case round =>
      clear hx0 hb0
      obtain ⟨n, s, rfl, rfl, hn, ht, hx, hb⟩ := hrel
      have hsl := ht.len HV.out
      by_cases hn0 : n = 0
      · subst hn0
        have hs : strL s = S := by
          rcases ht with ⟨_, h⟩ | ⟨h, _⟩
          · rw [h]; exact HS.out
          · exact absurd rfl h
        rw [hs]
        clear hs hsl ht
        go_wp2_with fail
        refine (hP0 _).mono ?_
        rintro _ w1 ⟨rfl, hb1⟩
        have hx1 := hx.below hb1 hx.lt
        have hbb := hb.trans (hb1.mono hb.size)
        have hlt := hx1.lt
        clear hb1 hx hb
        have hx2 := hx1.alloc (.cells #[.bool false, .string ⟨#[]⟩, .int .i64 0] 24)
        have hy2 := Cells.new w1 #[.bool false, .string ⟨#[]⟩, .int .i64 0] 24
        have hbb2 := hbb.alloc hbb.size (.cells #[.bool false, .string ⟨#[]⟩, .int .i64 0] 24)
        have hz1 := hbb.size
        have hx1c0 := hx1.cell 0 _ rfl
        have hx1f0 := hx1.frozen 0
        have hx1c1 := hx1.cell 1 _ rfl
        have hx1f1 := hx1.frozen 1
        have hx1c2 := hx1.cell 2 _ rfl
        have hx1f2 := hx1.frozen 2
        go_wp2_with fail
        refine (hP _).mono ?_
        rintro _ w2 ⟨rfl, hb3⟩
        have hx3 := hx2.below hb3 hx2.lt
        have hy3 := hy2.below hb3 hy2.lt
        have hb4 := hbb2.trans (hb3.mono hbb2.size)
        have hlt3 := hy3.lt
        have hlt4 := hx3.lt
        have hne : w.heap.size ≠ w1.heap.size := by omega
        clear hx1 hx2 hy2 hbb hbb2 hb3 hx1c0 hx1c1 hx1c2 hx1f0 hx1f1 hx1f2
        have hx3c0 := hx3.cell 0 _ rfl
        have hx3f0 := hx3.frozen 0
        have hx3c1 := hx3.cell 1 _ rfl
        have hx3f1 := hx3.frozen 1
        have hx3c2 := hx3.cell 2 _ rfl
        have hx3f2 := hx3.frozen 2
        have hy3c0 := hy3.cell 0 _ rfl
        have hy3f0 := hy3.frozen 0
        have hy3c1 := hy3.cell 1 _ rfl
        have hy3f1 := hy3.frozen 1
        have hy3c2 := hy3.cell 2 _ rfl
        have hy3f2 := hy3.frozen 2
        go_wp2
        refine bodyPost_ret (v := .agg #[.bool false, .string C, .int .i64 e]) (by simp [results, Tryd.results24, go_sem, hx3c0, hx3c1, hx3c2, hy3c0, hy3c1, hy3c2]) rfl ⟨by rw [hO.out], ?_⟩
        (repeat' (first | (with_reducible refine Below.setCell ?_ ?_ _) | (with_reducible refine Below.alloc ?_ ?_ _) | (with_reducible refine Below.drew ?_) | (with_reducible refine below_drewN ?_ _) | (with_reducible assumption) | (with_reducible exact Below.refl _ _) | (simp only [World.size_alloc, World.size_setCell, World.size_drew]; done) | (simp only [World.size_alloc, World.size_setCell, World.size_drew]; omega) | omega))
      · have HN := Lib.hid (ht.step hn0)
        obtain ⟨q, hq⟩ : ∃ q, n / 10 = q := ⟨_, rfl⟩
        obtain ⟨r, hr⟩ : ∃ r, n % 10 = r := ⟨_, rfl⟩
        rw [hq, hr] at HN
        have hrl : r < 10 := by omega
        obtain ⟨Y, hY⟩ : ∃ Y, strL s = Y := ⟨_, rfl⟩
        have hYs : Y.size ≤ 20 := by rw [← hY, size_strL]; exact hsl
        obtain ⟨U, hU⟩ : ∃ U, strL [UInt8.ofNat (48 + r)] = U := ⟨_, rfl⟩
        have hUs : U.size ≤ 1 := by rw [← hU, size_strL]; exact Nat.le_refl _
        have hz : (48 : Int) + (r : Int) = ((UInt8.ofNat (48 + r)).toNat : Int) := by rw [UInt8.toNat_ofNat']; omega
        have hcv := fun W => conv_one W (UInt8.ofNat (48 + r)) (48 + (r : Int)) U hU.symm hz
        have hYU := Lib.hid (show strL (UInt8.ofNat (48 + r) :: s) = U ++ Y from str_ext (by rw [app_list, ← hU, ← hY, strL_list, strL_list, strL_list]; rfl))
        have t1 : (n : Int).tdiv 10 = (q : Int) := by rw [Int.tdiv_eq_ediv_of_nonneg (by omega)]; omega
        have t2 : (n : Int) / 10 = (q : Int) := by omega
        have t3 : (n : Int).tmod 10 = (r : Int) := by rw [Int.tmod_eq_emod_of_nonneg (by omega)]; omega
        have t4 : (n : Int) % 10 = (r : Int) := by omega
        have k0 : IntKind.u64.wrap (q : Int) = (q : Int) := by have := HV.out; rw [IntKind.wrap_u64]; omega
        have k1 : IntKind.u64.wrap (48 + (r : Int)) = 48 + (r : Int) := by rw [IntKind.wrap_u64]; omega
        have k2 : IntKind.u8.wrap (48 + (r : Int)) = 48 + (r : Int) := by show ((48 + (r : Int)) % 256) = _; omega
        have hpos : 0 < (n : Int) := by omega
        have hqn : q < n := by omega
        have HQ := Lib.hid (show q ≤ v by omega)
        rw [hY]
        have HX := Lib.hid hx
        have HBB := Lib.hid hb
        clear hq hr hY hU hz ht hsl hn hn0 hx hb
        go_wp2
        go_roundw
        case rel => exact ⟨q, UInt8.ofNat (48 + r) :: s, rfl, by rw [hYU.out], HQ.out, HN.out, HX.out.alloc _, HBB.out.alloc HBB.out.size _⟩
        case measure => simp [intOf]; exact hqn
end Go.Proofs.YthiggalnjjcejaaDoor
