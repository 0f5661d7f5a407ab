/- NumWays (layer 6): the walk. -/
import Derived.Test.YthiggalnjjcejaaDoorNuQ
import Derived.Test.YthiggalnjjcejaaDoorNuE
import Derived.Test.YthiggalnjjcejaaDoorNuL
namespace Go.Proofs.YthiggalnjjcejaaDoor
set_option linter.unusedSimpArgs false
set_option linter.unusedVariables false
open Go.RowKit Go.Tab

theorem numOut_eq (r : (Bool × Bs × Int) × Int) : ∃ (b : Bool) (D : ByteArray) (e z : Int), numOut r = .tuple #[.agg #[.bool b, .string D, .int .i64 e], .int .i64 z] ∧ z = r.2 := ⟨r.1.1, strL r.1.2.1, r.1.2.2, r.2, rfl, rfl⟩
theorem valU_ok (u : Nat) : (valU u).2 = 0 := by unfold valU; split <;> rfl

set_option maxHeartbeats 8000000 in
set_option maxRecDepth 100000 in
theorem NumWays_walk (a0 : Int) (a1 : Int) (a2 : Int) (w : World) (w0 : (Lit.int .u32 a0).wf = true) (w1 : (Lit.int .u8 a1).wf = true) (w2 : (Lit.int .u8 a2).wf = true) (hT : NumTab w) :
    Calls Tryd.prog 5 #[.int .u32 a0, .int .u8 a1, .int .u8 a2] w fun e w' => e = .returned (.bool true) ∧ Below w.heap.size w w' := by
  have r0 : 0 ≤ a0 ∧ a0 < 4294967296 := by
    rw [Lit.wf, Bool.and_eq_true, decide_eq_true_eq, decide_eq_true_eq] at w0
    have e1 : IntKind.u32.min = 0 := rfl
    have e2 : IntKind.u32.max = 4294967295 := rfl
    omega
  have r1 : 0 ≤ a1 ∧ a1 < 256 := by
    rw [Lit.wf, Bool.and_eq_true, decide_eq_true_eq, decide_eq_true_eq] at w1
    have e1 : IntKind.u8.min = 0 := rfl
    have e2 : IntKind.u8.max = 255 := rfl
    omega
  have r2 : 0 ≤ a2 ∧ a2 < 256 := by
    rw [Lit.wf, Bool.and_eq_true, decide_eq_true_eq, decide_eq_true_eq] at w2
    have e1 : IntKind.u8.min = 0 := rfl
    have e2 : IntKind.u8.max = 255 := rfl
    omega
  obtain ⟨u, rfl⟩ : ∃ u : Nat, a0 = u := ⟨a0.toNat, by omega⟩
  obtain ⟨j, rfl⟩ : ∃ j : Nat, a1 = j := ⟨a1.toNat, by omega⟩
  obtain ⟨n, rfl⟩ : ∃ n : Nat, a2 = n := ⟨a2.toNat, by omega⟩
  have hu : u < 4294967296 := by omega
  have hl := dec_len (u := u) (by omega)
  have hl0 := len_pos (dec_ne u)
  obtain ⟨m, hm⟩ : ∃ m, n % 9 = m := ⟨_, rfl⟩
  have hm8 : m ≤ 8 := by omega
  obtain ⟨k, hk⟩ : ∃ k, j % ((Lib.decDigits u).length + 1) = k := ⟨_, rfl⟩
  have hkl : k ≤ (Lib.decDigits u).length := by rw [← hk]; exact Nat.lt_succ_iff.1 (Nat.mod_lt _ (by omega))
  obtain ⟨S, hS⟩ : ∃ S, strL (Lib.decDigits u) = S := ⟨_, rfl⟩
  have hSl : S.data.toList = Lib.decDigits u := by rw [← hS]; rfl
  have hSs : S.size = (Lib.decDigits u).length := by rw [size_list, hSl]
  have hDu : ∀ W, Calls Tryd.prog 18 #[.int .i64 u] W fun e w' => e = .returned (.string S) ∧ Below W.heap.size W w' := fun W => by rw [← hS]; exact Digits_any u (by omega) W
  obtain ⟨b, D, e, z, hO, hz⟩ := numOut_eq (valU u)
  rw [valU_ok] at hz
  subst hz
  have hA : ∀ W, TabS W → Calls Tryd.prog 10 #[.string S] W fun e' w' => e' = .returned (.tuple #[.agg #[.bool b, .string D, .int .i64 e], .int .i64 0]) ∧ Below W.heap.size W w' := fun W h => by
    have := Parse_good S false (Lib.decDigits u) [] [] [] [] W h (by omega) (by rw [hSl]; exact (way_a hu).1)
    rw [(way_a hu).2, hO] at this
    exact this
  obtain ⟨Z, hZ⟩ : ∃ Z, strL (zeros m) = Z := ⟨_, rfl⟩
  have hZl : Z.data.toList = zeros m := by rw [← hZ]; rfl
  have hZs : Z.size = m := by rw [size_list, hZl, zeros, List.length_replicate]
  obtain ⟨P1, hP1⟩ : ∃ P, strL (Lib.decDigits ((Lib.decDigits u).length + m)) = P := ⟨_, rfl⟩
  have hP1l : P1.data.toList = Lib.decDigits ((Lib.decDigits u).length + m) := by rw [← hP1]; rfl
  have hP1s : P1.size ≤ 20 := by rw [size_list, hP1l]; exact dec_len (by omega)
  have hD1 : ∀ W, Calls Tryd.prog 18 #[.int .i64 ((S.size : Int) + (Z.size : Int))] W fun e w' => e = .returned (.string P1) ∧ Below W.heap.size W w' := fun W => by
    have := Digits_any ((Lib.decDigits u).length + m) (by omega) W
    rw [hP1, Int.natCast_add, ← hSs, ← hZs] at this
    exact this
  have hB : ∀ W, TabS W → Calls Tryd.prog 10 #[.string (⟨#[48, 46]⟩ ++ Z ++ S ++ Z ++ ⟨#[101]⟩ ++ P1)] W fun e' w' => e' = .returned (.tuple #[.agg #[.bool b, .string D, .int .i64 e], .int .i64 0]) ∧ Below W.heap.size W w' := fun W h => by
    have hlist : (⟨#[48, 46]⟩ ++ Z ++ S ++ Z ++ ⟨#[101]⟩ ++ P1 : ByteArray).data.toList = [48, 46] ++ (zeros m ++ (Lib.decDigits u ++ (zeros m ++ 101 :: Lib.decDigits ((Lib.decDigits u).length + m)))) := by
      simp only [app_list, hSl, hZl, hP1l]; simp
    have := Parse_good (⟨#[48, 46]⟩ ++ Z ++ S ++ Z ++ ⟨#[101]⟩ ++ P1) false [48] (zeros m ++ (Lib.decDigits u ++ zeros m)) [101] [] _ W h (by simp only [ByteArray.size_append, hZs]; show 2 + _ + _ + _ + 1 + _ ≤ _; omega) (by rw [hlist]; exact (way_b hu m hm8).1)
    rw [(way_b hu m hm8).2, hO] at this
    exact this
  obtain ⟨P2, hP2⟩ : ∃ P, strL (Lib.decDigits m) = P := ⟨_, rfl⟩
  have hP2l : P2.data.toList = Lib.decDigits m := by rw [← hP2]; rfl
  have hP2s : P2.size ≤ 20 := by rw [size_list, hP2l]; exact dec_len (by omega)
  have hD2 : ∀ W, Calls Tryd.prog 18 #[.int .i64 (Z.size : Int)] W fun e w' => e = .returned (.string P2) ∧ Below W.heap.size W w' := fun W => by rw [← hP2, hZs]; exact Digits_any m (by omega) W
  have hlist2 : (S ++ Z ++ ⟨#[69, 45]⟩ ++ P2 : ByteArray).data.toList = Lib.decDigits u ++ (zeros m ++ 69 :: 45 :: Lib.decDigits m) := by
    simp only [app_list, hSl, hZl, hP2l]; simp
  have hsz2 : (S ++ Z ++ ⟨#[69, 45]⟩ ++ P2 : ByteArray).size ≤ 1048576 := by simp only [ByteArray.size_append, hZs]; show _ + _ + 2 + _ ≤ _; omega
  have hC : (u ≠ 0 ∨ m = 0) → ∀ W, TabS W → Calls Tryd.prog 10 #[.string (S ++ Z ++ ⟨#[69, 45]⟩ ++ P2)] W fun e' w' => e' = .returned (.tuple #[.agg #[.bool b, .string D, .int .i64 e], .int .i64 0]) ∧ Below W.heap.size W w' := fun hc W h => by
    have := Parse_good (S ++ Z ++ ⟨#[69, 45]⟩ ++ P2) false (Lib.decDigits u ++ zeros m) [] [69] [45] _ W h hsz2 (by rw [hlist2]; exact (way_c hu m hm8 hc).1)
    rw [(way_c hu m hm8 hc).2, hO] at this
    exact this
  have hC2 : u = 0 → m ≠ 0 → ∀ W, TabS W → Calls Tryd.prog 10 #[.string (S ++ Z ++ ⟨#[69, 45]⟩ ++ P2)] W fun e' w' => e' = .returned (.tuple #[.agg #[.bool false, .string ⟨#[]⟩, .int .i64 0], .int .i64 3]) ∧ Below W.heap.size W w' := fun h0 hm0 W h => by
    subst h0
    exact Parse_bad _ W h hsz2 (.inr (by rw [size_list, hlist2]; exact way_bad m hm0))
  have hS48 : u = 0 → S = ⟨#[48]⟩ := fun h => by subst h; rw [← hS, dec0]; rfl
  have hZne : m ≠ 0 → Z.toList.isEmpty = false := fun h => ne_emp (by rw [hZs]; exact h)
  have hT9 := Lib.hid hm
  have hwk := wakes_any w hT
  have HO := Lib.hid hO
  have t3 : (n : Int).tmod 9 = (m : Int) := by rw [Int.tmod_eq_emod_of_nonneg (by omega)]; omega
  have t4 : (n : Int) % 9 = (m : Int) := by omega
  have t6 : (j : Int) % ((S.size : Int) + 1) = (k : Int) := by rw [hSs, ← hk]; rfl
  have t5 : (j : Int).tmod ((S.size : Int) + 1) = (k : Int) := by rw [Int.tmod_eq_emod_of_nonneg (by omega)]; exact t6
  have hkS : k ≤ S.size := by omega
  have hS20 : S.size ≤ 20 := by omega
  have hZ8 : Z.size ≤ 8 := by omega
  have HSs := Lib.hid hSs
  have HZs := Lib.hid hZs
  have HZl := Lib.hid hZl
  have HSl := Lib.hid hSl
  have HU := Lib.hid hu
  have hmN : m < 9 := by omega
  clear hlist2 hsz2 hS hZ hP1 hP2 hP1l hP2l w0 w1 w2 hm hk hSs hZs hZl hSl hl hl0 hkl hu hO
  go_enter Tryd.func5, Tryd.ntmps5
  go_wp2_with fail
  refine hwk.mono ?_
  clear hwk
  rintro _ w1 ⟨rfl, hb1⟩
  go_wp2_with fail
  refine (hDu _).mono ?_
  clear hDu
  rintro _ w2 ⟨rfl, hb2⟩
  have HB := Lib.hid (hb1.trans (hb2.mono hb1.size))
  clear hb1 hb2
  go_wp2_with fail
  go_loop [8, 26] (fun s i => ∃ x : Nat, x ≤ m ∧ i = .int .i64 x ∧ s = .string (strL (zeros x))) (fun _ i => m - (intOf i).toNat)
  case atStart => exact ⟨0, Nat.zero_le _, rfl, rfl⟩
  case round =>
    obtain ⟨x, hx, rfl, rfl⟩ := hrel
    by_cases hlt : x < m
    · obtain ⟨Y, hY⟩ : ∃ Y, strL (zeros x) = Y := ⟨_, rfl⟩
      have hYs : Y.size ≤ 8 := by rw [← hY, size_strL, zeros, List.length_replicate]; omega
      have hN := Lib.hid (show Y ++ ⟨#[48]⟩ = strL (zeros (x + 1)) from str_ext (by rw [app_list, ← hY, strL_list, strL_list, zeros, zeros, List.replicate_succ']))
      rw [hY]
      clear hY
      go_wp2
      go_round
      case rel => exact ⟨x + 1, by omega, by go_num, by rw [← hN.out]⟩
      case measure => simp [intOf]; omega
    · obtain rfl : x = m := by omega
      have hZZ : strL (zeros x) = Z := by rw [strL_of Z, HZl.out]
      rw [hZZ]
      clear hZZ
      go_wp2_with fail
      refine (hA _ (hT.below HB.out).steps).mono ?_
      rintro _ w3 ⟨rfl, hbx⟩
      have hbN := HB.out.trans (hbx.mono HB.out.size)
      clear hA
      have hbA := hbN.alloc hbN.size (.cells #[.bool b, .string D, .int .i64 e] 24)
      have HA := Lib.hid (Cells.new w3 #[.bool b, .string D, .int .i64 e] 24)
      clear hbx HB hbN
      have HB := Lib.hid hbA
      clear hbA
      go_wp2_with fail
      refine (hD1 _).mono ?_
      rintro _ w4 ⟨rfl, hbx⟩
      have hbN := HB.out.trans (hbx.mono HB.out.size)
      clear hD1
      have hk_HA := HA.out.below hbx HA.out.lt
      clear HA
      have HA := Lib.hid hk_HA
      clear hk_HA
      clear hbx HB
      have HB := Lib.hid hbN
      clear hbN
      go_wp2_with fail
      refine (hB _ (hT.below HB.out).steps).mono ?_
      rintro _ w5 ⟨rfl, hbx⟩
      have hbN := HB.out.trans (hbx.mono HB.out.size)
      clear hB
      have hk_HA := HA.out.below hbx HA.out.lt
      clear HA
      have HA := Lib.hid hk_HA
      clear hk_HA
      have hk_HA := HA.out.alloc (.cells #[.bool b, .string D, .int .i64 e] 24)
      clear HA
      have HA := Lib.hid hk_HA
      clear hk_HA
      have hbA := hbN.alloc hbN.size (.cells #[.bool b, .string D, .int .i64 e] 24)
      have HBx := Lib.hid (Cells.new w5 #[.bool b, .string D, .int .i64 e] 24)
      clear hbx HB hbN
      have HB := Lib.hid hbA
      clear hbA
      go_wp2_with fail
      refine (hD2 _).mono ?_
      rintro _ w6 ⟨rfl, hbx⟩
      have hbN := HB.out.trans (hbx.mono HB.out.size)
      clear hD2
      have hk_HA := HA.out.below hbx HA.out.lt
      clear HA
      have HA := Lib.hid hk_HA
      clear hk_HA
      have hk_HBx := HBx.out.below hbx HBx.out.lt
      clear HBx
      have HBx := Lib.hid hk_HBx
      clear hk_HBx
      clear hbx HB
      have HB := Lib.hid hbN
      clear hbN
      by_cases hcz : u ≠ 0 ∨ x = 0
      · have hC5 := hC hcz
        clear hC
        clear hC2 hS48 hZne
        go_wp2_with fail
        refine (hC5 _ (hT.below HB.out).steps).mono ?_
        rintro _ w7 ⟨rfl, hbx⟩
        have hbN := HB.out.trans (hbx.mono HB.out.size)
        have hk_HA := HA.out.below hbx HA.out.lt
        clear HA
        have HA := Lib.hid hk_HA
        clear hk_HA
        have hk_HBx := HBx.out.below hbx HBx.out.lt
        clear HBx
        have HBx := Lib.hid hk_HBx
        clear hk_HBx
        have xa := HA.out
        have xb := HBx.out
        have hla := xa.lt
        have hlb := xb.lt
        have HB7 := Lib.hid hbN
        have hz7 := hbN.size
        have hz8 : w.heap.size ≤ w7.heap.size + 1 := by omega
        clear HB hbN hbx
        by_cases hkk : 0 < k ∧ k < S.size
        · have hk1 : 0 < k := hkk.1
          have hk2 : k < S.size := hkk.2
          obtain ⟨q, hq⟩ : ∃ q, (Lib.decDigits u).length - k = q := ⟨_, rfl⟩
          obtain ⟨P3, hP3⟩ : ∃ P, strL (Lib.decDigits q) = P := ⟨_, rfl⟩
          have hkq := HSs.out
          have hP3l : P3.data.toList = Lib.decDigits q := by rw [← hP3]; rfl
          have hP3s : P3.size ≤ 20 := by rw [size_list, hP3l]; exact dec_len (by omega)
          have hD3 : ∀ W, Calls Tryd.prog 18 #[.int .i64 q] W fun e w' => e = .returned (.string P3) ∧ Below W.heap.size W w' := fun W => by rw [← hP3]; exact Digits_any q (by omega) W
          obtain ⟨S1, hS1⟩ : ∃ S1, S.extract 0 k = S1 := ⟨_, rfl⟩
          obtain ⟨S2, hS2⟩ : ∃ S2, S.extract k S.size = S2 := ⟨_, rfl⟩
          have hS1s : S1.size ≤ 20 := by rw [← hS1, ByteArray.size_extract]; omega
          have hS2s : S2.size ≤ 20 := by rw [← hS2, ByteArray.size_extract]; omega
          have hE : ∀ W, TabS W → Calls Tryd.prog 10 #[.string (S1 ++ ⟨#[46]⟩ ++ S2 ++ ⟨#[101, 43]⟩ ++ P3)] W fun e' w' => e' = .returned (.tuple #[.agg #[.bool b, .string D, .int .i64 e], .int .i64 0]) ∧ Below W.heap.size W w' := fun W h => by
            have hw := way_d HU.out k hk1 (by omega)
            rw [hq] at hw
            have hlist : (S1 ++ ⟨#[46]⟩ ++ S2 ++ ⟨#[101, 43]⟩ ++ P3 : ByteArray).data.toList = (Lib.decDigits u).take k ++ 46 :: ((Lib.decDigits u).drop k ++ 101 :: 43 :: Lib.decDigits q) := by
              simp only [app_list, hP3l, ← hS1, ← hS2, ext_list, HSl.out, size_list, List.take_length]; simp
            have := Parse_good (S1 ++ ⟨#[46]⟩ ++ S2 ++ ⟨#[101, 43]⟩ ++ P3) false _ _ [101] [43] _ W h (by simp only [ByteArray.size_append]; show _ + 1 + _ + 2 + _ ≤ _; omega) (by rw [hlist]; exact hw.1)
            rw [hw.2, HO.out] at this
            exact this
          have kq : IntKind.i64.wrap ((S.size : Int) - (k : Int)) = (q : Int) := by rw [IntWalk.i64_in _ (by omega)]; omega
          have hkb : 0 ≤ (k : Int) ∧ (k : Int) ≤ (S.size : Int) := by omega
          have HXA := Lib.hid ((xa.alloc (.cells #[.bool b, .string D, .int .i64 e] 24)).alloc (.cells #[.bool b, .string D, .int .i64 e] 24))
          have HXB := Lib.hid ((xb.alloc (.cells #[.bool b, .string D, .int .i64 e] 24)).alloc (.cells #[.bool b, .string D, .int .i64 e] 24))
          have HXC := Lib.hid ((Cells.new w7 #[.bool b, .string D, .int .i64 e] 24).alloc (.cells #[.bool b, .string D, .int .i64 e] 24))
          have hxd := Cells.new (w7.alloc (.cells #[.bool b, .string D, .int .i64 e] 24)) #[.bool b, .string D, .int .i64 e] 24
          rw [World.size_alloc] at hxd
          have HXD := Lib.hid hxd
          have HBB := Lib.hid ((HB7.out.alloc HB7.out.size (.cells #[.bool b, .string D, .int .i64 e] 24)).alloc (by have := HB7.out.size; simp; omega) (.cells #[.bool b, .string D, .int .i64 e] 24))
          have xac0 := xa.cell 0 _ rfl
          have xaf0 := xa.frozen 0
          have xac1 := xa.cell 1 _ rfl
          have xaf1 := xa.frozen 1
          have xac2 := xa.cell 2 _ rfl
          have xaf2 := xa.frozen 2
          have xbc0 := xb.cell 0 _ rfl
          have xbf0 := xb.frozen 0
          have xbc1 := xb.cell 1 _ rfl
          have xbf1 := xb.frozen 1
          have xbc2 := xb.cell 2 _ rfl
          have xbf2 := xb.frozen 2
          clear hkk hq hP3 hP3l hkq hxd hS1s hS2s
          have hS1s : S1.size ≤ 20 := by rw [← hS1, ByteArray.size_extract]; omega
          have hS2s : S2.size ≤ 20 := by rw [← hS2, ByteArray.size_extract]; omega
          have Q1 := Lib.hid (show ¬ 9223372036854775807 < S1.size + 1 by omega)
          have Q2 := Lib.hid (show ¬ 9223372036854775807 < S1.size + 1 + S2.size by omega)
          have Q3 := Lib.hid (show ¬ 9223372036854775807 < S1.size + 1 + S2.size + 2 by omega)
          have Q4 := Lib.hid (show ¬ 9223372036854775807 < S1.size + 1 + S2.size + 2 + P3.size by omega)
          have hza : w3.heap.size ≠ w7.heap.size + 1 := by have := HA.out.lt; omega
          have hzb : w5.heap.size ≠ w7.heap.size + 1 := by have := HBx.out.lt; omega
          have HZA := Lib.hid hza
          have HZB := Lib.hid hzb
          clear hza hzb
          go_upto_region 15 with fail
          go_cut [17] (fun x wc => x = .int .i64 0 ∧ Cells wc w3.heap.size #[.bool b, .string D, .int .i64 e] 24 ∧ Cells wc w5.heap.size #[.bool b, .string D, .int .i64 e] 24 ∧ Cells wc w7.heap.size #[.bool b, .string D, .int .i64 e] 24 ∧ Cells wc (w7.heap.size + 1) #[.bool b, .string D, .int .i64 e] 24 ∧ Below w.heap.size w wc)
          case first =>
            have q1 := Q1.out
            have q2 := Q2.out
            have q3 := Q3.out
            have q4 := Q4.out
            clear Q1 Q2 Q3 Q4 r0 r1 r2 t5 t6 t3 t4 hkS hS20 hZ8 hm8 hmN hx hlt hla hlb hz7 hz8 hP1s hP2s xac0 xac1 xac2 xaf0 xaf1 xaf2 xbc0 xbc1 xbc2 xbf0 xbf1 xbf2
            go_region_held3 (fun _ => True) (exact trivial) (first
              | (go_at_call 10; (with_reducible refine (hE _ (hT.below hb8).steps).mono ?_); rintro _ w9 ⟨rfl, hb9'⟩; have hb9 := hb8.trans (hb9'.mono hb8.size); have ya := ya8.below hb9' ya8.lt; have yb := yb8.below hb9' yb8.lt; have yc := yc8.below hb9' yc8.lt; have yd := yd8.below hb9' yd8.lt; have yd0 := yd.cell 0 _ rfl; have yd1 := yd.cell 1 _ rfl; have yd2 := yd.cell 2 _ rfl; have yf0 := yd.frozen 0; have yf1 := yd.frozen 1; have yf2 := yd.frozen 2)
              | (go_at_call 18; (with_reducible refine (hD3 _).mono ?_); rintro _ w8 ⟨rfl, hb8'⟩; have hb8 := (Below.drew HBB.out).trans (hb8'.mono HBB.out.size); have ya8 := HXA.out.drew.below hb8' HXA.out.lt; have yb8 := HXB.out.drew.below hb8' HXB.out.lt; have yc8 := HXC.out.drew.below hb8' HXC.out.lt; have yd8 := HXD.out.drew.below hb8' HXD.out.lt))
            all_goals
              clear q1 q2 q3 q4 ya8 yb8 yc8 yd8 hb8 yd0 yd1 yd2 yf0 yf1 yf2
              have hz7 := HB7.out.size
              have hz8 : w.heap.size ≤ w7.heap.size + 1 := by omega
              go_wp2_with fail
              go_meet
              case rel => exact ⟨rfl, ((ya.setOther _ _ (fun h => HZA.out h.symm)).setOther _ _ (fun h => HZA.out h.symm)).setOther _ _ (fun h => HZA.out h.symm), ((yb.setOther _ _ (fun h => HZB.out h.symm)).setOther _ _ (fun h => HZB.out h.symm)).setOther _ _ (fun h => HZB.out h.symm), ((yc.setOther _ _ (by simp)).setOther _ _ (by simp)).setOther _ _ (by simp), ((yd.set 0 (by simp) _).set 1 (by simp) _).set 2 (by simp) _, by (repeat' (first | (with_reducible refine Below.setCell ?_ ?_ _) | (with_reducible refine Below.alloc ?_ ?_ _) | (with_reducible refine Below.drew ?_) | (with_reducible refine below_drewN ?_ _) | (with_reducible assumption) | (with_reducible exact Below.refl _ _) | (simp only [World.size_alloc, World.size_setCell, World.size_drew]; done) | (simp only [World.size_alloc, World.size_setCell, World.size_drew]; omega) | omega))⟩
          case rest =>
            obtain ⟨rfl, ya, yb, yc, yd, hbb⟩ := hcut
            clear Q1 Q2 Q3 Q4 HXA HXB HXC HXD HBB hE hD3 xac0 xac1 xac2 xaf0 xaf1 xaf2 xbc0 xbc1 xbc2 xbf0 xbf1 xbf2 xa xb hS1 hS2
            have yac0 := ya.cell 0 _ rfl
            have yaf0 := ya.frozen 0
            have yac1 := ya.cell 1 _ rfl
            have yaf1 := ya.frozen 1
            have yac2 := ya.cell 2 _ rfl
            have yaf2 := ya.frozen 2
            have ybc0 := yb.cell 0 _ rfl
            have ybf0 := yb.frozen 0
            have ybc1 := yb.cell 1 _ rfl
            have ybf1 := yb.frozen 1
            have ybc2 := yb.cell 2 _ rfl
            have ybf2 := yb.frozen 2
            have ycc0 := yc.cell 0 _ rfl
            have ycf0 := yc.frozen 0
            have ycc1 := yc.cell 1 _ rfl
            have ycf1 := yc.frozen 1
            have ycc2 := yc.cell 2 _ rfl
            have ycf2 := yc.frozen 2
            have ydc0 := yd.cell 0 _ rfl
            have ydf0 := yd.frozen 0
            have ydc1 := yd.cell 1 _ rfl
            have ydf1 := yd.frozen 1
            have ydc2 := yd.cell 2 _ rfl
            have ydf2 := yd.frozen 2
            go_wp2
            go_ret
            exact ⟨rfl, hbb⟩
        · skip
          have xac0 := xa.cell 0 _ rfl
          have xaf0 := xa.frozen 0
          have xac1 := xa.cell 1 _ rfl
          have xaf1 := xa.frozen 1
          have xac2 := xa.cell 2 _ rfl
          have xaf2 := xa.frozen 2
          have xbc0 := xb.cell 0 _ rfl
          have xbf0 := xb.frozen 0
          have xbc1 := xb.cell 1 _ rfl
          have xbf1 := xb.frozen 1
          have xbc2 := xb.cell 2 _ rfl
          have xbf2 := xb.frozen 2
          have hb7 := HB7.out
          have hz7 := hb7.size
          have hz8 : w.heap.size ≤ w7.heap.size + 1 := by omega
          have hkk2 : ¬ 0 < k ∨ (0 < k ∧ ¬ k < S.size) := by omega
          clear hkk
          rcases hkk2 with hk1 | ⟨hk1, hk2⟩
          · go_wp2
            go_ret
            exact ⟨rfl, by (repeat' (first | (with_reducible refine Below.setCell ?_ ?_ _) | (with_reducible refine Below.alloc ?_ ?_ _) | (with_reducible refine Below.drew ?_) | (with_reducible refine below_drewN ?_ _) | (with_reducible assumption) | (with_reducible exact Below.refl _ _) | (simp only [World.size_alloc, World.size_setCell, World.size_drew]; done) | (simp only [World.size_alloc, World.size_setCell, World.size_drew]; omega) | omega))⟩
          · go_wp2
            go_ret
            exact ⟨rfl, by (repeat' (first | (with_reducible refine Below.setCell ?_ ?_ _) | (with_reducible refine Below.alloc ?_ ?_ _) | (with_reducible refine Below.drew ?_) | (with_reducible refine below_drewN ?_ _) | (with_reducible assumption) | (with_reducible exact Below.refl _ _) | (simp only [World.size_alloc, World.size_setCell, World.size_drew]; done) | (simp only [World.size_alloc, World.size_setCell, World.size_drew]; omega) | omega))⟩
      · have hu0 : u = 0 := by omega
        have hx0 : x ≠ 0 := by omega
        have hC5 := hC2 hu0 hx0
        clear hC
        have HSS := Lib.hid (hS48 hu0)
        have HZn := Lib.hid (hZne hx0)
        have HX0 := Lib.hid hx0
        have hv : b = false ∧ D = ⟨#[]⟩ ∧ e = 0 := by
          have h1 := HO.out
          rw [hu0, valU, if_pos rfl] at h1
          have h2 : (Value.tuple #[.agg #[.bool false, .string ⟨#[]⟩, .int .i64 0], .int .i64 0]) = .tuple #[.agg #[.bool b, .string D, .int .i64 e], .int .i64 0] := h1
          simp at h2
          exact ⟨by first | exact h2.1 | exact h2.1.symm, by first | exact h2.2.1 | exact h2.2.1.symm, by first | exact h2.2.2 | exact h2.2.2.symm⟩
        obtain ⟨rfl, rfl, rfl⟩ := hv
        clear hC2 hS48 hZne hcz hx0 hu0
        go_wp2_with fail
        refine (hC5 _ (hT.below HB.out).steps).mono ?_
        rintro _ w7 ⟨rfl, hbx⟩
        have hbN := HB.out.trans (hbx.mono HB.out.size)
        have hk_HA := HA.out.below hbx HA.out.lt
        clear HA
        have HA := Lib.hid hk_HA
        clear hk_HA
        have hk_HBx := HBx.out.below hbx HBx.out.lt
        clear HBx
        have HBx := Lib.hid hk_HBx
        clear hk_HBx
        have hSS := HSS.out
        have hZn := HZn.out
        have xa := HA.out
        have xb := HBx.out
        have hla := xa.lt
        have hlb := xb.lt
        have xac0 := xa.cell 0 _ rfl
        have xaf0 := xa.frozen 0
        have xac1 := xa.cell 1 _ rfl
        have xaf1 := xa.frozen 1
        have xac2 := xa.cell 2 _ rfl
        have xaf2 := xa.frozen 2
        have xbc0 := xb.cell 0 _ rfl
        have xbf0 := xb.frozen 0
        have xbc1 := xb.cell 1 _ rfl
        have xbf1 := xb.frozen 1
        have xbc2 := xb.cell 2 _ rfl
        have xbf2 := xb.frozen 2
        have hb7 := hbN
        have hz7 := hb7.size
        have hz8 : w.heap.size ≤ w7.heap.size + 1 := by omega
        have hs1 : S.size = 1 := by rw [hSS]; rfl
        have hkk2 : k = 0 ∨ k = 1 := by omega
        clear hbx HB hbN hkS hS20 HSs HSl t5 t6
        subst hSS
        rcases hkk2 with rfl | rfl
        · go_wp2
          go_ret
          exact ⟨rfl, by (repeat' (first | (with_reducible refine Below.setCell ?_ ?_ _) | (with_reducible refine Below.alloc ?_ ?_ _) | (with_reducible refine Below.drew ?_) | (with_reducible refine below_drewN ?_ _) | (with_reducible assumption) | (with_reducible exact Below.refl _ _) | (simp only [World.size_alloc, World.size_setCell, World.size_drew]; done) | (simp only [World.size_alloc, World.size_setCell, World.size_drew]; omega) | omega))⟩
        · go_wp2
          go_ret
          exact ⟨rfl, by (repeat' (first | (with_reducible refine Below.setCell ?_ ?_ _) | (with_reducible refine Below.alloc ?_ ?_ _) | (with_reducible refine Below.drew ?_) | (with_reducible refine below_drewN ?_ _) | (with_reducible assumption) | (with_reducible exact Below.refl _ _) | (simp only [World.size_alloc, World.size_setCell, World.size_drew]; done) | (simp only [World.size_alloc, World.size_setCell, World.size_drew]; omega) | omega))⟩
end Go.Proofs.YthiggalnjjcejaaDoor
