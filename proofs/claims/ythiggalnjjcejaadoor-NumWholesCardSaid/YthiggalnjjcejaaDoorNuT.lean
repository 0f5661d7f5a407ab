/- The walk of powerOf (layer 6): a power's digits, up to a bound. -/
import Derived.Test.YthiggalnjjcejaaDoorNuH
import Derived.Test.YthiggalnjjcejaaDoorNuS
import Derived.Test.YthiggalnjjcejaaDoorShf
import Derived.IntWalk
namespace Go.Proofs.YthiggalnjjcejaaDoor
set_option linter.unusedSimpArgs false
set_option linter.unusedVariables false
open Go.RowKit Go.Tab

theorem foldP_lt : ∀ (l : Bs) (n : Nat), n ≤ 1099511627776 → l.foldl addP n ≤ 1099511627776
  | [], _, h => h
  | c :: l, n, _ => by
    rw [List.foldl_cons]
    exact foldP_lt l _ (Nat.min_le_right _ _)
theorem foldl_take {α β : Type} (f : α → β → α) (a : α) (l : List β) {k : Nat} (h : k < l.length) : (l.take (k + 1)).foldl f a = f ((l.take k).foldl f a) l[k] := by
  rw [List.take_add_one, List.getElem?_eq_getElem h, List.foldl_append]
  rfl

theorem neg_end (pw : Bs) (n : Nat) (h : pw.foldl addP 0 ≤ n) (hn : n ≤ 1099511627776 := by omega) : Ending.returned (Value.int .i64 (wrap64 (-((pw.foldl addP 0 : Nat) : Int)))) = Ending.returned (Value.int .i64 (powP [45] pw)) := by
  rw [powP, sgn, if_pos rfl]
  congr 2
  unfold wrap64
  omega



set_option maxHeartbeats 4000000 in
set_option maxRecDepth 100000 in
theorem powerOf_any (S : ByteArray) (sg pw : Bs) (w : World) (hS : S.data.toList = sg ++ pw) (hsg : sg = [] ∨ sg = [43] ∨ sg = [45]) (hd : pw.all dg = true) (h0 : pw ≠ []) (hl : S.size ≤ 1048576) :
    Calls Tryd.prog 27 #[.string S] w fun e w' => e = .returned (.int .i64 (powP sg pw)) ∧ w = w' := by
  have hdp := Lib.hid hd
  have hz : 0 < pw.length := List.length_pos_iff.2 h0
  have hs0 := size_list S
  rw [hS, List.length_append] at hs0
  rcases hsg with rfl | rfl | rfl
  · have hRs : Hid (S.size = pw.length) := Lib.hid (by simpa using hs0)
    have hpos : 0 < S.size := by rw [hRs.out]; exact hz
    have hRg : ∀ k (h1 : k < S.size) (h2 : k < pw.length), S[k]'h1 = pw[k] := fun k h1 h2 => by
      rw [get_list]
      have := congrArg (fun l => l[k]?) hS
      simp only [List.nil_append] at this
      rw [List.getElem?_eq_getElem h2, List.getElem?_eq_getElem (by rw [← size_list]; exact h1)] at this
      exact Option.some.inj this
    have HR := Lib.hid hRg
    clear hRg
    have h1 := HR.out 0 hpos hz
    have h2 := dg_lt (List.all_eq_true.1 hd pw[0] (List.getElem_mem _))
    have d1 : (((S[0]'hpos).toNat : Int) == 45) = false := by rw [h1, beq_eq_false_iff_ne]; omega
    have d2 : (((S[0]'hpos).toNat : Int) == 43) = false := by rw [h1, beq_eq_false_iff_ne]; omega
    clear h1 h2 hd h0 hs0 hS
    go_enter Tryd.func27, Tryd.ntmps27
    go_wp2_with fail
    go_loop [4, 19] (fun n i => ∃ k : Nat, k ≤ S.size ∧ i = .int .i64 k ∧ n = .int .i64 ((pw.take k).foldl addP 0 : Nat)) (fun _ i => S.size - (intOf i).toNat)
    case atStart => exact ⟨0, Nat.zero_le _, rfl, rfl⟩
    case round =>
      obtain ⟨k, hk, rfl, rfl⟩ := hrel
      by_cases hlt : k < S.size
      · have hkp : k < pw.length := by rw [← hRs.out]; exact hlt
        have hb := foldP_lt (pw.take k) 0 (by omega)
        have hf := Lib.hid (foldl_take addP 0 pw hkp)
        have hg : S[k]'hlt = pw[k] := HR.out k hlt hkp
        have hd := dg_lt (List.all_eq_true.1 hdp.out pw[k] (List.getElem_mem _))
        have hF : Hid (addP ((pw.take k).foldl addP 0) pw[k] = (pw.take (k + 1)).foldl addP 0) := Lib.hid hf.out.symm
        clear hf
        generalize (pw.take k).foldl addP 0 = m at hb hF ⊢
        generalize pw[k] = c at hg hd hF
        clear hkp
        go_wp2
        go_round
        case rel => exact ⟨k + 1, by omega, by go_num, by rw [← hF.out]; congr 1; unfold addP; omega⟩
        case measure => simp [intOf]; omega
      · obtain rfl : k = S.size := by omega
        have hf : Hid (pw.take S.size = pw) := Lib.hid (by rw [hRs.out]; exact List.take_length)
        go_wp2
        go_ret
        refine ⟨?_, rfl⟩
        rw [hf.out]
        rfl
  · have hpos : 0 < S.size := by rw [hs0]; simp; omega
    have hfst : S[0]'hpos = 43 := by
      rw [get_list]
      have := congrArg (fun l => l[0]?) hS
      rw [List.singleton_append] at this
      simp only [List.getElem?_cons_zero] at this
      rw [List.getElem?_eq_getElem (by rw [← size_list]; exact hpos)] at this
      exact Option.some.inj this
    obtain ⟨R, hR⟩ : ∃ R, S.extract 1 S.size = R := ⟨_, rfl⟩
    have hRl : R.data.toList = pw := by
      rw [← hR, ext_list, size_list, List.take_length, hS]; rfl
    have hRs : Hid (R.size = pw.length) := Lib.hid (by rw [size_list, hRl])
    have hle : R.size ≤ 1048576 := by rw [hRs.out]; simp at hs0; omega
    have hsz : S.size = R.size + 1 := by rw [hRs.out, hs0]; simp; omega
    have HR : Hid (∀ k (h1 : k < R.size) (h2 : k < pw.length), R[k]'h1 = pw[k]) := Lib.hid (fun k h1 h2 => by
      subst hRl; rfl)
    have HS := Lib.hid hsz
    have h1S : 1 ≤ S.size := by omega
    have d1 : (((S[0]'hpos).toNat : Int) == 45) = decide (43 = 45) := by rw [hfst]; rfl
    have d2 : (((S[0]'hpos).toNat : Int) == 43) = decide (43 = 43) := by rw [hfst]; rfl
    have hlen : S.size - 1 = R.size := by omega
    clear hd h0 hs0 hS hfst hRl hsz
    go_enter Tryd.func27, Tryd.ntmps27
    go_wp2_with fail
    go_loop [4, 19] (fun n i => ∃ k : Nat, k ≤ R.size ∧ i = .int .i64 k ∧ n = .int .i64 ((pw.take k).foldl addP 0 : Nat)) (fun _ i => R.size - (intOf i).toNat)
    case atStart => exact ⟨0, Nat.zero_le _, rfl, rfl⟩
    case round =>
      obtain ⟨k, hk, rfl, rfl⟩ := hrel
      by_cases hlt : k < R.size
      · have hkp : k < pw.length := by rw [← hRs.out]; exact hlt
        have hb := foldP_lt (pw.take k) 0 (by omega)
        have hf := Lib.hid (foldl_take addP 0 pw hkp)
        have hg : R[k]'hlt = pw[k] := HR.out k hlt hkp
        have hd := dg_lt (List.all_eq_true.1 hdp.out pw[k] (List.getElem_mem _))
        have hF : Hid (addP ((pw.take k).foldl addP 0) pw[k] = (pw.take (k + 1)).foldl addP 0) := Lib.hid hf.out.symm
        clear hf
        generalize (pw.take k).foldl addP 0 = m at hb hF ⊢
        generalize pw[k] = c at hg hd hF
        clear hkp
        go_wp2
        go_round
        case rel => exact ⟨k + 1, by omega, by go_num, by rw [← hF.out]; congr 1; unfold addP; omega⟩
        case measure => simp [intOf]; omega
      · obtain rfl : k = R.size := by omega
        have hf : Hid (pw.take R.size = pw) := Lib.hid (by rw [hRs.out]; exact List.take_length)
        go_wp2
        go_ret
        refine ⟨?_, rfl⟩
        rw [hf.out]
        rfl
  · have hpos : 0 < S.size := by rw [hs0]; simp; omega
    have hfst : S[0]'hpos = 45 := by
      rw [get_list]
      have := congrArg (fun l => l[0]?) hS
      rw [List.singleton_append] at this
      simp only [List.getElem?_cons_zero] at this
      rw [List.getElem?_eq_getElem (by rw [← size_list]; exact hpos)] at this
      exact Option.some.inj this
    obtain ⟨R, hR⟩ : ∃ R, S.extract 1 S.size = R := ⟨_, rfl⟩
    have hRl : R.data.toList = pw := by
      rw [← hR, ext_list, size_list, List.take_length, hS]; rfl
    have hRs : Hid (R.size = pw.length) := Lib.hid (by rw [size_list, hRl])
    have hle : R.size ≤ 1048576 := by rw [hRs.out]; simp at hs0; omega
    have hsz : S.size = R.size + 1 := by rw [hRs.out, hs0]; simp; omega
    have HR : Hid (∀ k (h1 : k < R.size) (h2 : k < pw.length), R[k]'h1 = pw[k]) := Lib.hid (fun k h1 h2 => by
      subst hRl; rfl)
    have HS := Lib.hid hsz
    have h1S : 1 ≤ S.size := by omega
    have d1 : (((S[0]'hpos).toNat : Int) == 45) = decide (45 = 45) := by rw [hfst]; rfl
    have d2 : (((S[0]'hpos).toNat : Int) == 43) = decide (45 = 43) := by rw [hfst]; rfl
    have hlen : S.size - 1 = R.size := by omega
    clear hd h0 hs0 hS hfst hRl hsz
    go_enter Tryd.func27, Tryd.ntmps27
    go_wp2_with fail
    go_loop [4, 19] (fun n i => ∃ k : Nat, k ≤ R.size ∧ i = .int .i64 k ∧ n = .int .i64 ((pw.take k).foldl addP 0 : Nat)) (fun _ i => R.size - (intOf i).toNat)
    case atStart => exact ⟨0, Nat.zero_le _, rfl, rfl⟩
    case round =>
      obtain ⟨k, hk, rfl, rfl⟩ := hrel
      by_cases hlt : k < R.size
      · have hkp : k < pw.length := by rw [← hRs.out]; exact hlt
        have hb := foldP_lt (pw.take k) 0 (by omega)
        have hf := Lib.hid (foldl_take addP 0 pw hkp)
        have hg : R[k]'hlt = pw[k] := HR.out k hlt hkp
        have hd := dg_lt (List.all_eq_true.1 hdp.out pw[k] (List.getElem_mem _))
        have hF : Hid (addP ((pw.take k).foldl addP 0) pw[k] = (pw.take (k + 1)).foldl addP 0) := Lib.hid hf.out.symm
        clear hf
        generalize (pw.take k).foldl addP 0 = m at hb hF ⊢
        generalize pw[k] = c at hg hd hF
        clear hkp
        go_wp2
        go_round
        case rel => exact ⟨k + 1, by omega, by go_num, by rw [← hF.out]; congr 1; unfold addP; omega⟩
        case measure => simp [intOf]; omega
      · obtain rfl : k = R.size := by omega
        have hf : Hid (pw.take R.size = pw) := Lib.hid (by rw [hRs.out]; exact List.take_length)
        go_wp2
        go_ret
        refine ⟨?_, rfl⟩
        rw [hf.out]
        exact neg_end _ _ (foldP_lt pw 0 (by omega))
end Go.Proofs.YthiggalnjjcejaaDoor
