/- Texts of this claim, one behind the other: NuY, LxNr, LxS, LxU, LxV. -/
import Derived.Test.YthbhknfhmkhfgaaGreatDoorMgb
import Derived.Test.YthbhknfhmkhfgaaGreatDoorMgg
import Derived.Test.YthbhknfhmkhfgaaGreatDoorMgj
import Derived.Test.YthbhknfhmkhfgaaGreatDoorMgl
set_option linter.unusedSimpArgs false
set_option linter.unusedVariables false
namespace Go.Proofs.YthbhknfhmkhfgaaGreatDoor
set_option maxRecDepth 100000
set_option maxHeartbeats 20000000
open Go.RowKit Go.Tab
theorem rParse_bad (s : ByteArray) (w : World) (hs : s.size <= 1048576) (h : s.data.toList = [] \/ scanN s.data.toList ≠ s.size) :
  Calls Tryz.prog 44 #[.string s] w fun e w' => e = .returned (numOut ((false, [], 0), 3)) /\ Below w.heap.size w w' := by
 by_cases h0 : s.size = 0
 ·have hd : s = ⟨#[]⟩ := emp_of h0
  subst hd; clear h h0 hs; go_enter Tryz.func44, Tryz.ntmps44; go_wp2; refine bodyPost_ret (v := numOut ((false, [], 0), 3)) (by simp [results, Tryz.results44, go_sem, numOut, strL]) rfl ⟨rfl, ?_⟩
  (repeat' first | with_reducible refine Below.setCell ?_ ?_ _ | with_reducible refine Below.alloc ?_ ?_ _ | with_reducible refine Below.drew ?_ | with_reducible refine below_drewN ?_ _ | with_reducible assumption | with_reducible exact Below.refl _ _ | (simp only [World.size_alloc, World.size_setCell, World.size_drew]; first | done | omega) | omega)
 ·have hne := ne_emp h0
  have hz : ((s.size : Int) == 0) = false := by rw [beq_eq_false_iff_ne]; omega
  have hn : ((scanN s.data.toList : Int) != (s.size : Int)) = true := by
   rcases h with h | h
   ·rw [size_list, h] at h0; exact absurd rfl h0
   ·rw [bne_iff_ne]; omega
  have hS := fun W => rScan_any s W hs; clear h h0; go_enter Tryz.func44, Tryz.ntmps44; go_wp2_with fail; refine (hS _).mono ?_; rintro _ _ ⟨rfl, rfl⟩; go_wp2; refine bodyPost_ret (v := numOut ((false, [], 0), 3)) (by simp [results, Tryz.results44, go_sem, numOut, strL]) rfl ⟨rfl, ?_⟩
  (repeat' first | with_reducible refine Below.setCell ?_ ?_ _ | with_reducible refine Below.alloc ?_ ?_ _ | with_reducible refine Below.drew ?_ | with_reducible refine below_drewN ?_ _ | with_reducible assumption | with_reducible exact Below.refl _ _ | (simp only [World.size_alloc, World.size_setCell, World.size_drew]; first | done | omega) | omega)
theorem front_ne {c m : UInt8} (h : dg c = true \/ c = 46) (hm : dg m = false /\ m ≠ 46) : c ≠ m := by
 rcases h with h | rfl
 ·exact dg_ne h hm.1
 ·exact hm.2.symm
theorem u8_bn {c : UInt8} {n : UInt8} (h : c ≠ n) {m : Int} (hm : (n.toNat : Int) = m) : ((c.toNat : Int) != m) = true := by
 rw [bne, u8_nb h hm]; rfl
theorem eq_nil_or_snoc (d : Bs) : d = [] \/ ∃ d' c, d = d' ++ [c] := by
 rcases List.eq_nil_or_concat d with h | ⟨d', c, h⟩
 ·exact .inl h
 ·exact .inr ⟨d', c, by rw [h, List.concat_eq_append]⟩
theorem rParse_good (s : ByteArray) (neg : Bool) (ip fr mk sg pw : Bs) (w : World) (hs : s.size <= 1048576) (h : NumTxt s.data.toList neg ip fr mk sg pw) :
  Calls Tryz.prog 44 #[.string s] w fun e w' => e = .returned (numOut (numVal neg ip fr (powQ sg pw))) /\ Below w.heap.size w w' := by
 have hz0 : s.size ≠ 0 := by rw [size_list]; exact len_pos h.scan.2
 have hz : ((s.size : Int) == 0) = false := by rw [beq_eq_false_iff_ne]; omega
 have hpos : 0 < s.size := by omega
 have hn : ((scanN s.data.toList : Int) != (s.size : Int)) = false := by
  rw [h.scan.1, size_list]; exact bne_self_eq_false _
 have hS := fun W => rScan_any s W hs; obtain ⟨off, hoff⟩ : ∃ off, (if neg then 1 else 0) = off := ⟨_, rfl⟩; have hoffb : off <= 1 := by rw [<- hoff]; split <;> omega
 obtain ⟨F, hF⟩ : ∃ F, frontT ip fr = F := ⟨_, rfl⟩; obtain ⟨R, hR⟩ : ∃ R, sg ++ pw = R := ⟨_, rfl⟩; have hEq : s.data.toList = (if neg then [45] else []) ++ (F ++ (mk ++ R)) := by rw [<- hF, <- hR]; exact h.eq'
 have hsz : s.size = off + F.length + mk.length + R.length := by
  rw [size_list, hEq, <- hoff]; simp only [List.length_append]; split <;> simp <;> omega
 have hat : ∀ j (hj : off + j < s.size), s[off + j]'hj = (F ++ (mk ++ R))[j]'(by simp only [List.length_append]; omega) := by
  intro j hj; rw [get_list]
  have h1 : s.data.toList[off + j]? = (F ++ (mk ++ R))[j]? := by
   rw [hEq, <- hoff]; cases neg
   ·simp
   ·simp [Nat.add_comm 1]
  rw [List.getElem?_eq_getElem (by rw [<- size_list]; exact hj), List.getElem?_eq_getElem (by simp only [List.length_append]; omega)] at h1
  exact Option.some.inj h1
 have hneg : (((s[0]'hpos).toNat : Int) == 45) = neg := by
  cases neg with
  | true =>
   have : s[0]'hpos = 45 := by
    rw [get_list]; have h1 : s.data.toList[0]? = some 45 := by rw [hEq]; rfl
    rw [List.getElem?_eq_getElem (by rw [<- size_list]; exact hpos)] at h1
    exact Option.some.inj h1
   rw [this]; rfl
  | false =>
   have hip := h.ip0; have hdd := h.dip
   have h1 : ∃ c, dg c = true /\ s.data.toList[0]? = some c := by
    rw [hEq, <- hF, frontT]
    cases ip with
    | nil => exact absurd rfl hip
    | cons c p => exact ⟨c, all_head hdd (c := c) rfl, rfl⟩
   obtain ⟨c, hc, h2⟩ := h1; rw [List.getElem?_eq_getElem (by rw [<- size_list]; exact hpos)] at h2
   rw [get_list, Option.some.inj h2]; exact u8_nb (n := 45) (dg_ne hc (by decide)) rfl
 have hFat : ∀ i (hi : i < s.size) (h1 : off <= i) (h2 : i - off < F.length), s[i]'hi = F[i - off] := by
  intro i hi h1 h2; have := hat (i - off) (by omega)
  simp only [Nat.add_sub_cancel' h1] at this; rw [this, List.getElem_append_left h2]
 have hRat : ∀ i (hi : i < s.size) (h1 : off + F.length + mk.length <= i) (h2 : i - (off + F.length + mk.length) < R.length), s[i]'hi = R[i - (off + F.length + mk.length)] := by
  intro i hi h1 h2; have := hat (i - off) (by omega)
  simp only [Nat.add_sub_cancel' (show off <= i by omega)] at this
  rw [this, List.getElem_append_right (by omega), List.getElem_append_right (by omega)]
  congr 1
  omega
 have hFc : ∀ x ∈ F, dg x = true \/ x = 46 := fun x hx => h.front_mem (by rw [hF]; exact hx)
 obtain ⟨pF, hgF⟩ := h.gather; rw [hF] at hgF
 have hgR : R.foldl stP (0, false) = (pw.foldl addQ 0, decide (sg = [45])) := by
  rw [<- hR]; refine power_gather sg pw ?_ h.dpw; rcases h.exp with ⟨_, h2, _⟩ | ⟨_, h2, _⟩
  ·exact .inl h2
  ·exact h2
 have hDl : (valD ip fr).length <= 1048576 := by
  have h1 := trimL_le (ip ++ fr); have h2 := h.len.1; rw [<- size_list] at h2; rw [List.length_append] at h1; unfold valD; omega
 have hfl : fr.length <= 1048576 := by have h2 := h.len.1; rw [<- size_list] at h2; omega
 have HF := Lib.hid hFat; have HR := Lib.hid hRat; have HFc := Lib.hid hFc; have HgF := Lib.hid hgF; have HgR := Lib.hid hgR; have Hsz := Lib.hid hsz
 have hmk : (mk = [] /\ R = []) \/ mk = [101] \/ mk = [69] := by
  rcases h.exp with ⟨h1, h2, h3⟩ | ⟨h1, _, _⟩
  ·exact .inl ⟨h1, by rw [<- hR, h2, h3]; rfl⟩
  ·exact .inr h1
 have hmark : ∀ m, mk = [m] -> ∃ hi : off + F.length < s.size, s[off + F.length]'hi = m := by
  intro m hm; have hi : off + F.length < s.size := by rw [hsz, hm]; simp; omega
  refine ⟨hi, ?_⟩; rw [hat F.length hi, List.getElem_append_right (Nat.le_refl _)]; subst hm; simp
 obtain ⟨q, hq⟩ : ∃ q, off + F.length = q := ⟨_, rfl⟩; rw [hq] at hmark; have Hq := Lib.hid hq; have hqs : q <= s.size := by omega
 have hoq : off <= q := by omega
 clear hEq hat hFat hRat hFc hgF hgR hF hR hz0 hsz hq; rcases hmk with ⟨rfl, hRn⟩ | rfl | rfl
 all_goals
  first
   | (
    clear hmark; have hs1 := Lib.hid (show s.size = q by have := Hsz.out; have := Hq.out; rw [hRn] at *; simp at *; omega)
    have hs2 : ¬ q < s.size := by have := hs1.out; omega
    have HRat : Hid (∀ k (hk : k < s.size) (h1 : q + 1 <= k) (h2 : k - (q + 1) < R.length), s[k]'hk = R[k - (q + 1)]) := Lib.hid (fun k hk h1 h2 => by have := hs1.out; omega)
    have HRl : Hid (∀ k, k < s.size -> q + 1 <= k -> k - (q + 1) < R.length) := Lib.hid (fun k hk h1 => by have := hs1.out; omega)
    have HRe : Hid (∀ k, ¬ k < s.size -> q + 1 <= k -> k <= q + 1 + R.length -> k - (q + 1) = R.length) := Lib.hid (fun k _ _ h => by rw [hRn] at h ⊢; simp at h ⊢; omega)
    have hRlen : R.length <= 1048576 := by rw [hRn]; simp
    clear HR Hsz hRn
    have hs3 := True.intro)
   | (
    obtain ⟨hqi, hqm⟩ := hmark _ rfl; clear hmark; have hs1 := Lib.hid (show s.size = q + 1 + R.length by have := Hsz.out; have := Hq.out; simp at *; omega)
    have HRat : Hid (∀ k (hk : k < s.size) (h1 : q + 1 <= k) (h2 : k - (q + 1) < R.length), s[k]'hk = R[k - (q + 1)]) := Lib.hid (fun k hk h1 h2 => by
     have e := Hq.out; subst e
     exact HR.out k hk h1 h2)
    have HRl : Hid (∀ k, k < s.size -> q + 1 <= k -> k - (q + 1) < R.length) := Lib.hid (fun k hk h1 => by have := hs1.out; omega)
    have HRe : Hid (∀ k, ¬ k < s.size -> q + 1 <= k -> k <= q + 1 + R.length -> k - (q + 1) = R.length) := Lib.hid (fun k h1 h2 h3 => by have := hs1.out; omega)
    have hRlen : R.length <= 1048576 := by have := hs1.out; omega
    clear HR Hsz; have hs2 : (((s[q]'hqi).toNat : Int) != 101) = false := by rw [hqm]; rfl
    clear hqm
    have hs3 := True.intro)
   | (
    obtain ⟨hqi, hqm⟩ := hmark _ rfl; clear hmark; have hs1 := Lib.hid (show s.size = q + 1 + R.length by have := Hsz.out; have := Hq.out; simp at *; omega)
    have HRat : Hid (∀ k (hk : k < s.size) (h1 : q + 1 <= k) (h2 : k - (q + 1) < R.length), s[k]'hk = R[k - (q + 1)]) := Lib.hid (fun k hk h1 h2 => by
     have e := Hq.out; subst e
     exact HR.out k hk h1 h2)
    have HRl : Hid (∀ k, k < s.size -> q + 1 <= k -> k - (q + 1) < R.length) := Lib.hid (fun k hk h1 => by have := hs1.out; omega)
    have HRe : Hid (∀ k, ¬ k < s.size -> q + 1 <= k -> k <= q + 1 + R.length -> k - (q + 1) = R.length) := Lib.hid (fun k h1 h2 h3 => by have := hs1.out; omega)
    have hRlen : R.length <= 1048576 := by have := hs1.out; omega
    clear HR Hsz; have hs2 : (((s[q]'hqi).toNat : Int) != 101) = true := by rw [hqm]; rfl
    have hs3 : (((s[q]'hqi).toNat : Int) != 69) = false := by rw [hqm]; rfl
    clear hqm)
  go_enter Tryz.func44, Tryz.ntmps44; go_wp2_with fail; refine (hS _).mono ?_; rintro _ _ ⟨rfl, rfl⟩; go_upto_if 23 with fail
  clear hS hz hn; go_cut [5] (fun x wc => x = .int .i64 off /\ Cells wc w.heap.size #[.bool false, .string ⟨#[]⟩, .int .i64 0] 83 /\ Cells wc (w.heap.size + 1) #[.bool neg, .string ⟨#[]⟩, .int .i64 0] 83 /\ Below w.heap.size w wc)
  case first =>
   have hb0 := fun b : Bool => (show Below w.heap.size w ((w.alloc (.cells #[.bool false, .string ⟨#[]⟩, .int .i64 0] 83)).alloc (.cells #[.bool b, .string ⟨#[]⟩, .int .i64 0] 83)) from ((Below.refl _ w).alloc (Nat.le_refl _) _).alloc (by simp) _)
   have hc0 := fun b : Bool => (Cells.new w #[.bool false, .string ⟨#[]⟩, .int .i64 0] 83).alloc (.cells #[.bool b, .string ⟨#[]⟩, .int .i64 0] 83); have hc1 := fun b : Bool => Cells.new (w.alloc (.cells #[.bool false, .string ⟨#[]⟩, .int .i64 0] 83)) #[.bool b, .string ⟨#[]⟩, .int .i64 0] 83; rw [World.size_alloc] at hc1
   cases neg with
   | false =>
    have Hoff := Lib.hid (show 0 = off from hoff); clear hoff; go_wp2; go_meet
    case rel => exact ⟨by rw [<- Hoff.out]; rfl, hc0 _, hc1 _, hb0 _⟩
   | true =>
    have Hoff := Lib.hid (show 1 = off from hoff); clear hoff; go_wp2; go_meet
    case rel => exact ⟨by rw [<- Hoff.out]; rfl, hc0 _, hc1 _, hb0 _⟩
  case rest =>
   obtain ⟨rfl, hx, hy, hb⟩ := hcut; clear hneg hoff; go_wp2_with fail; go_loopw [5, 6] (fun x5 x6 wr => ∃ (i : Nat) (d : Bs) (e : Int) (p : Bool), x5 = .int .i64 i /\ x6 = .bool p /\ off <= i /\ i <= q /\ (F.take (i - off)).foldl stF ([], 0, false) = (d, e, p) /\ -(i : Int) <= e /\ e <= 0 /\ d.length <= i /\ Cells wr w.heap.size #[.bool false, .string ⟨#[]⟩, .int .i64 0] 83 /\ Cells wr (w.heap.size + 1) #[.bool neg, .string (strL d), .int .i64 e] 83 /\ Below w.heap.size w wr) (fun x5 _ _ => q - (intOf x5).toNat)
   case atStart => exact ⟨off, [], 0, false, rfl, rfl, Nat.le_refl _, hoq, by rw [Nat.sub_self]; rfl, by omega, by omega, Nat.zero_le _, hx, hy, hb⟩
   case round =>
    clear hx hy hb; obtain ⟨i, d, e, p, rfl, rfl, hi1, hi2, hfold, he1, he2, hdl, hx, hy, hb⟩ := hrel; have his : i <= s.size := by omega
    by_cases hlt : i < q
    ·have hil : i < s.size := by omega
     have hiF : i - off < F.length := by have := Hq.out; omega
     obtain ⟨c, hcF⟩ : ∃ c, F[i - off] = c := ⟨_, rfl⟩; have hsi : s[i]'hil = c := by rw [HF.out i hil hi1 hiF, hcF]
     have hcc := HFc.out c (by rw [<- hcF]; exact List.getElem_mem _)
     have n1 : (((s[i]'hil).toNat : Int) != 101) = true := by rw [hsi]; exact u8_bn (n := 101) (front_ne hcc (by decide)) rfl
     have n2 : (((s[i]'hil).toNat : Int) != 69) = true := by rw [hsi]; exact u8_bn (n := 69) (front_ne hcc (by decide)) rfl
     have hN : Hid ((F.take (i + 1 - off)).foldl stF ([], 0, false) = stF (d, e, p) c) := Lib.hid (by
      rw [show i + 1 - off = (i - off) + 1 by omega, foldl_take stF _ F hiF, hfold, hcF])
     have Hc := Lib.hid hsi; obtain ⟨D, hD⟩ : ∃ D, strL d = D := ⟨_, rfl⟩; have HD := Lib.hid hD; rw [hD] at hy; clear hfold hcF hcc hsi hD; have hyc0 := hy.cell 0 _ rfl; have hyf0 := hy.frozen 0; have hyc1 := hy.cell 1 _ rfl; have hyf1 := hy.frozen 1; have hyc2 := hy.cell 2 _ rfl; have hyf2 := hy.frozen 2
     by_cases h46 : c = 46
     ·have d1 : (((s[i]'hil).toNat : Int) == 46) = true := by rw [Hc.out, h46]; rfl
      have hN2 := Lib.hid (show (F.take (i + 1 - off)).foldl stF ([], 0, false) = (d, e, true) by rw [hN.out, stF, if_pos h46])
      clear hN h46; go_wp2; go_roundw
      case rel => exact ⟨i + 1, d, e, true, by go_num, rfl, by omega, by omega, hN2.out, by omega, by omega, by omega, hx, by rw [HD.out]; exact hy, hb⟩
      case measure => simp [intOf]; omega
     ·have d1 : (((s[i]'hil).toNat : Int) == 46) = false := by rw [Hc.out]; exact u8_nb h46 rfl
      by_cases hap : d ≠ [] \/ c ≠ 48
      ·obtain ⟨D2, hD2⟩ : ∃ D2, D ++ s.extract i (i + 1) = D2 := ⟨_, rfl⟩
       have HD2 : Hid (strL (d ++ [c]) = D2) := Lib.hid (str_ext (by
        rw [<- hD2, app_list, ext_list, <- HD.out, strL_list, strL_list]
        have e1 : (s.data.toList.take (i + 1)).drop i = [c] := by
         rw [List.take_add_one, List.getElem?_eq_getElem (by rw [<- size_list]; exact hil), List.drop_append_of_le_length (by rw [List.length_take, <- size_list]; omega), List.drop_eq_nil_of_le (by rw [List.length_take]; omega), List.nil_append, <- Hc.out]
         rfl
        rw [e1]))
       have hN3 : Hid ((F.take (i + 1 - off)).foldl stF ([], 0, false) = (d ++ [c], if p then e - 1 else e, p)) := Lib.hid (by rw [hN.out, stF, if_neg h46, if_pos hap])
       have hap2 : (0 < D.size) \/ (¬ 0 < D.size /\ (((s[i]'hil).toNat : Int) != 48) = true) := by
        by_cases hd : d = []
        ·rcases hap with h | h
         ·exact absurd hd h
         ·exact .inr ⟨by rw [<- HD.out, size_strL, hd]; simp, by rw [Hc.out]; exact u8_bn h rfl⟩
        ·exact .inl (by rw [<- HD.out, size_strL]; exact List.length_pos_iff.2 hd)
       have hDs : D.size <= 1048576 := by rw [<- HD.out, size_strL]; omega
       have hxs : (s.extract i (i + 1)).size <= 1 := by rw [ByteArray.size_extract]; omega
       clear hN h46 hap; rcases hap2 with hz | ⟨hz, d2⟩
       ·cases p with
        | true =>
         have hN2 : Hid ((F.take (i + 1 - off)).foldl stF ([], 0, false) = (d ++ [c], e - 1, true)) := Lib.hid hN3.out; clear hN3; go_wp2_with fail
         (go_region; go_wp2_with fail)
         go_roundw
         case rel => exact ⟨i + 1, d ++ [c], e - 1, true, by go_num, rfl, by omega, by omega, hN2.out, by omega, by omega, by first | omega | (simp; omega), (hx.setOther _ _ (by simp)).setOther _ _ (by simp), by rw [HD2.out]; exact (hy.set 2 (by simp) _).set 1 (by simp) _, by (repeat' first | with_reducible refine Below.setCell ?_ ?_ _ | with_reducible refine Below.alloc ?_ ?_ _ | with_reducible refine Below.drew ?_ | with_reducible refine below_drewN ?_ _ | with_reducible assumption | with_reducible exact Below.refl _ _ | (simp only [World.size_alloc, World.size_setCell, World.size_drew]; first | done | omega) | omega)⟩
         case measure => simp [intOf]; omega
        | false =>
         have hN2 : Hid ((F.take (i + 1 - off)).foldl stF ([], 0, false) = (d ++ [c], e, false)) := Lib.hid hN3.out; clear hN3; go_wp2_with fail
         (go_region; go_wp2_with fail)
         go_roundw
         case rel => exact ⟨i + 1, d ++ [c], e, false, by go_num, rfl, by omega, by omega, hN2.out, by omega, by omega, by first | omega | (simp; omega), hx.setOther _ _ (by simp), by rw [HD2.out]; exact hy.set 1 (by simp) _, by (repeat' first | with_reducible refine Below.setCell ?_ ?_ _ | with_reducible refine Below.alloc ?_ ?_ _ | with_reducible refine Below.drew ?_ | with_reducible refine below_drewN ?_ _ | with_reducible assumption | with_reducible exact Below.refl _ _ | (simp only [World.size_alloc, World.size_setCell, World.size_drew]; first | done | omega) | omega)⟩
         case measure => simp [intOf]; omega
       ·cases p with
        | true =>
         have hN2 : Hid ((F.take (i + 1 - off)).foldl stF ([], 0, false) = (d ++ [c], e - 1, true)) := Lib.hid hN3.out; clear hN3; go_wp2_with fail
         (go_region; go_wp2_with fail)
         go_roundw
         case rel => exact ⟨i + 1, d ++ [c], e - 1, true, by go_num, rfl, by omega, by omega, hN2.out, by omega, by omega, by first | omega | (simp; omega), (hx.setOther _ _ (by simp)).setOther _ _ (by simp), by rw [HD2.out]; exact (hy.set 2 (by simp) _).set 1 (by simp) _, by (repeat' first | with_reducible refine Below.setCell ?_ ?_ _ | with_reducible refine Below.alloc ?_ ?_ _ | with_reducible refine Below.drew ?_ | with_reducible refine below_drewN ?_ _ | with_reducible assumption | with_reducible exact Below.refl _ _ | (simp only [World.size_alloc, World.size_setCell, World.size_drew]; first | done | omega) | omega)⟩
         case measure => simp [intOf]; omega
        | false =>
         have hN2 : Hid ((F.take (i + 1 - off)).foldl stF ([], 0, false) = (d ++ [c], e, false)) := Lib.hid hN3.out; clear hN3; go_wp2_with fail
         (go_region; go_wp2_with fail)
         go_roundw
         case rel => exact ⟨i + 1, d ++ [c], e, false, by go_num, rfl, by omega, by omega, hN2.out, by omega, by omega, by first | omega | (simp; omega), hx.setOther _ _ (by simp), by rw [HD2.out]; exact hy.set 1 (by simp) _, by (repeat' first | with_reducible refine Below.setCell ?_ ?_ _ | with_reducible refine Below.alloc ?_ ?_ _ | with_reducible refine Below.drew ?_ | with_reducible refine below_drewN ?_ _ | with_reducible assumption | with_reducible exact Below.refl _ _ | (simp only [World.size_alloc, World.size_setCell, World.size_drew]; first | done | omega) | omega)⟩
         case measure => simp [intOf]; omega
      ·have hN3 : Hid ((F.take (i + 1 - off)).foldl stF ([], 0, false) = (d, if p then e - 1 else e, p)) := Lib.hid (by rw [hN.out, stF, if_neg h46, if_neg hap])
       have hap2 : d = [] /\ c = 48 := by
        refine ⟨?_, ?_⟩
        ·by_cases hd : d = []
         ·exact hd
         ·exact absurd (.inl hd) hap
        ·by_cases hd : c = 48
         ·exact hd
         ·exact absurd (.inr hd) hap
       have hz : ¬ 0 < D.size := by rw [<- HD.out, size_strL, hap2.1]; simp
       have d2 : (((s[i]'hil).toNat : Int) != 48) = false := by rw [Hc.out, hap2.2]; rfl
       clear hN h46 hap hap2
       cases p with
       | true =>
        have hN2 : Hid ((F.take (i + 1 - off)).foldl stF ([], 0, false) = (d, e - 1, true)) := Lib.hid hN3.out; clear hN3; go_wp2_with fail
        skip
        go_roundw
        case rel => exact ⟨i + 1, d, e - 1, true, by go_num, rfl, by omega, by omega, hN2.out, by omega, by omega, by first | omega | (simp; omega), hx.setOther _ _ (by simp), by rw [HD.out]; exact hy.set 2 (by simp) _, by (repeat' first | with_reducible refine Below.setCell ?_ ?_ _ | with_reducible refine Below.alloc ?_ ?_ _ | with_reducible refine Below.drew ?_ | with_reducible refine below_drewN ?_ _ | with_reducible assumption | with_reducible exact Below.refl _ _ | (simp only [World.size_alloc, World.size_setCell, World.size_drew]; first | done | omega) | omega)⟩
        case measure => simp [intOf]; omega
       | false =>
        have hN2 : Hid ((F.take (i + 1 - off)).foldl stF ([], 0, false) = (d, e, false)) := Lib.hid hN3.out; clear hN3; go_wp2_with fail
        skip
        go_roundw
        case rel => exact ⟨i + 1, d, e, false, by go_num, rfl, by omega, by omega, hN2.out, by omega, by omega, by first | omega | (simp; omega), hx, by rw [HD.out]; exact hy, by (repeat' first | with_reducible refine Below.setCell ?_ ?_ _ | with_reducible refine Below.alloc ?_ ?_ _ | with_reducible refine Below.drew ?_ | with_reducible refine below_drewN ?_ _ | with_reducible assumption | with_reducible exact Below.refl _ _ | (simp only [World.size_alloc, World.size_setCell, World.size_drew]; first | done | omega) | omega)⟩
        case measure => simp [intOf]; omega
    ·obtain rfl : i = q := by omega
     have hfin : Hid (d = valD ip fr /\ e = -(fr.length : Int)) := Lib.hid (by
      have h1 := hfold; rw [show i - off = F.length by have := Hq.out; omega, List.take_length, HgF.out] at h1
      exact ⟨(congrArg (fun x => x.1) h1).symm, (congrArg (fun x => x.2.1) h1).symm⟩)
     clear hfold; clear hlt hi2 his; go_wp2_with fail; clear hs2 hs3; go_loop [5, 7, 8] (fun x5 x7 x8 => ∃ (k n : Nat) (p : Bool), x5 = .int .i64 k /\ x7 = .int .i64 n /\ x8 = .bool p /\ i + 1 <= k /\ k <= i + 1 + R.length /\ (R.take (k - (i + 1))).foldl stP (0, false) = (n, p) /\ n < 10000000000) (fun x5 _ _ => i + 1 + R.length - (intOf x5).toNat)
     case atStart => exact ⟨i + 1, 0, false, by go_num, rfl, rfl, Nat.le_refl _, by omega, by rw [Nat.sub_self]; rfl, by omega⟩
     case round =>
      obtain ⟨k, n, p, rfl, rfl, rfl, hk1, hk2, hfold, hnb⟩ := hrel; have hD := fun W => rdig_any s k W (by omega)
      by_cases hks : k < s.size
      ·have hkR := HRl.out k hks hk1
       obtain ⟨c, hcR⟩ : ∃ c, R[k - (i + 1)]'(by omega) = c := ⟨_, rfl⟩
       have hsk : s[k]'hks = c := by rw [HRat.out k hks hk1 (by omega), hcR]
       have hN : Hid ((R.take (k + 1 - (i + 1))).foldl stP (0, false) = stP (n, p) c) := Lib.hid (by
        rw [show k + 1 - (i + 1) = (k - (i + 1)) + 1 by omega, foldl_take stP _ R (by omega), hfold, hcR])
       have hdig : digB s k = dg c := by
        rw [digB, digs_at hks, hsk]; cases dg c <;> simp
       rw [hdig] at hD; clear hfold hcR hdig
       by_cases h45 : c = 45
       ·have hN2 := Lib.hid (show (R.take (k + 1 - (i + 1))).foldl stP (0, false) = (n, true) by rw [hN.out, stP, h45]; simp [show dg 45 = false from rfl])
        rw [h45] at hD hsk; have hD2 : ∀ W, Calls Tryz.prog 78 #[.string s, .int .i64 k] W fun r w' => r = .returned (.bool false) /\ W = w' := hD; have d1 : (((s[k]'hks).toNat : Int) == 45) = true := by rw [hsk]; rfl
        clear hN h45 hD hsk; go_wp2_with ((with_reducible refine (hD2 _).mono ?_); rintro _ _ ⟨rfl, rfl⟩)
        go_round
        case rel => exact ⟨k + 1, n, true, by go_num, rfl, rfl, by omega, by omega, hN2.out, hnb⟩
        case measure => (simp [intOf] <;> omega)
       ·have d1 : (((s[k]'hks).toNat : Int) == 45) = false := by rw [hsk]; exact u8_nb h45 rfl
        cases hdc : dg c with
        | false =>
         have hN2 := Lib.hid (show (R.take (k + 1 - (i + 1))).foldl stP (0, false) = (n, p) by rw [hN.out, stP, hdc]; simp [h45])
         rw [hdc] at hD; clear hN h45 hsk hdc; go_wp2_with ((with_reducible refine (hD _).mono ?_); rintro _ _ ⟨rfl, rfl⟩)
         go_round
         case rel => exact ⟨k + 1, n, p, by go_num, rfl, rfl, by omega, by omega, hN2.out, hnb⟩
         case measure => simp [intOf] <;> omega
        | true =>
         have hcb : 48 <= (s[k]'hks).toNat /\ (s[k]'hks).toNat <= 57 := by rw [hsk]; exact dg_lt hdc
         have hN2 := Lib.hid (show (R.take (k + 1 - (i + 1))).foldl stP (0, false) = (addQ n c, p) by rw [hN.out, stP, hdc]; simp [h45])
         rw [hdc] at hD; have Hsk := Lib.hid hsk; clear hN h45 hdc hsk d1; have d1 : ¬ ((s[k]'hks).toNat : Int) = 45 := by omega
         by_cases hn9 : n < 1000000000
         ·have hn7 : n <= 999999999 := by omega
          have hA := Lib.hid (show addQ n c = n * 10 + (c.toNat - 48) by rw [addQ, if_pos hn9])
          have HN9 := Lib.hid hn9; clear hnb hn9; go_upto_region 22 with fail
          go_upto_if 82 with fail
          go_upto_region 24 with fail
          go_upto_if 89 with ((with_reducible refine (hD _).mono ?_); rintro _ _ ⟨rfl, rfl⟩)
          rw [show decide ((n : Int) < 1000000000) = true from decide_eq_true (by omega)]
          go_wp2; go_round
          case rel => exact ⟨k + 1, addQ n c, p, by go_num, by rw [hA.out, <- Hsk.out]; congr 1; have := HN9.out; (try unfold wrap64); omega, rfl, by omega, by omega, hN2.out, by rw [hA.out, <- Hsk.out]; have := HN9.out; omega⟩
          case measure => (simp [intOf] <;> omega)
         ·have hn7 : 1000000000 <= n := by omega
          have hA := Lib.hid (show addQ n c = n by rw [addQ, if_neg hn9])
          have HNb := Lib.hid hnb; clear hn9 hnb; go_upto_region 22 with fail
          go_upto_if 82 with fail
          go_upto_region 24 with fail
          go_upto_if 89 with ((with_reducible refine (hD _).mono ?_); rintro _ _ ⟨rfl, rfl⟩)
          rw [show decide ((n : Int) < 1000000000) = false from decide_eq_false (by omega)]
          go_wp2; go_round
          case rel => exact ⟨k + 1, addQ n c, p, by go_num, by rw [hA.out], rfl, by omega, by omega, hN2.out, by rw [hA.out]; exact HNb.out⟩
          case measure => (simp [intOf] <;> omega)
      ·have hk3 := HRe.out k hks hk1 hk2
       have hfin2 : n = pw.foldl addQ 0 /\ p = decide (sg = [45]) := by
        have h1 := hfold; rw [show k - (i + 1) = R.length by omega, List.take_length, HgR.out] at h1
        exact ⟨(congrArg (fun x => x.1) h1).symm, (congrArg (fun x => x.2) h1).symm⟩
       have hPw : powQ sg pw = if p then -(n : Int) else n := by
        rw [powQ, sgn, hfin2.1, hfin2.2]
        by_cases h : sg = [45] <;> simp [h]
       obtain ⟨P, hP⟩ : ∃ P, powQ sg pw = P := ⟨_, rfl⟩; have HP := Lib.hid hP; rw [hP] at hPw; have HPw := Lib.hid hPw; have hPb : -10000000000 <= P /\ P <= 10000000000 := by rw [hPw]; split <;> omega
       clear hfold hfin2 hPw hP hk3 hD; go_upto_if 98 with fail
       go_cut [7] (fun x wc => x = .int .i64 P /\ wr = wc)
       case first =>
        cases p with
        | false =>
         go_wp2; go_meet
         case rel => exact ⟨by rw [HPw.out]; rfl, rfl⟩
        | true =>
         go_wp2; go_meet
         case rel => exact ⟨by rw [HPw.out]; simp, rfl⟩
       case rest =>
        obtain ⟨rfl, rfl⟩ := hcut; rw [hfin.out.1, hfin.out.2] at hy; clear hfin he1 he2 hdl HPw; have hyc0 := hy.cell 0 _ rfl; have hyf0 := hy.frozen 0; have hyc1 := hy.cell 1 _ rfl; have hyf1 := hy.frozen 1; have hyc2 := hy.cell 2 _ rfl; have hyf2 := hy.frozen 2; go_wp2_with fail; go_loopw [] (fun wr2 => ∃ (d : Bs) (e : Int), Lib.trimRightB d 48 = valC ip fr /\ e + d.length = -(fr.length : Int) + P + (valD ip fr).length /\ d.length <= (valD ip fr).length /\ Cells wr2 w.heap.size #[.bool false, .string ⟨#[]⟩, .int .i64 0] 83 /\ Cells wr2 (w.heap.size + 1) #[.bool neg, .string (strL d), .int .i64 e] 83 /\ Below w.heap.size w wr2) (fun wr2 => match wr2.cell? ⟨w.heap.size + 1, 1, none⟩ with | some v => Lib.strSize v | none => 0)
        case atStart => exact ⟨valD ip fr, -(fr.length : Int) + P, rfl, rfl, Nat.le_refl _, hx.setOther _ _ (by simp), hy.set 2 (by simp) _, by (repeat' first | with_reducible refine Below.setCell ?_ ?_ _ | with_reducible refine Below.alloc ?_ ?_ _ | with_reducible refine Below.drew ?_ | with_reducible refine below_drewN ?_ _ | with_reducible assumption | with_reducible exact Below.refl _ _ | (simp only [World.size_alloc, World.size_setCell, World.size_drew]; first | done | omega) | omega)⟩
        case round =>
         clear hx hy hb hyc0 hyc1 hyc2 hyf0 hyf1 hyf2; obtain ⟨d, e, ht, he, hdl, hx, hy, hb⟩ := hrel; have hds : (strL d).size = d.length := size_strL d; have heb : -20000000000 <= e /\ e <= 20000000000 := by omega
         rcases eq_nil_or_snoc d with hd0 | ⟨d', c, hd0⟩
         ·subst hd0
          have hV := Lib.hid (show numVal neg ip fr (powQ sg pw) = ((false, [], 0), 0) by
           rw [numVal, if_pos (show valC ip fr = [] from ht.symm)])
          have hy : Cells wr (w.heap.size + 1) #[.bool neg, .string ⟨#[]⟩, .int .i64 e] 83 := hy; have hz : ((⟨#[]⟩ : ByteArray).size : Int) = 0 := rfl; clear ht he hdl hds; have hxc0 := hx.cell 0 _ rfl; have hxf0 := hx.frozen 0; have hxc1 := hx.cell 1 _ rfl; have hxf1 := hx.frozen 1; have hxc2 := hx.cell 2 _ rfl; have hxf2 := hx.frozen 2; have hyc0 := hy.cell 0 _ rfl; have hyf0 := hy.frozen 0; have hyc1 := hy.cell 1 _ rfl; have hyf1 := hy.frozen 1; have hyc2 := hy.cell 2 _ rfl; have hyf2 := hy.frozen 2; go_wp2; refine bodyPost_ret (v := numOut ((false, [], 0), 0)) (by simp [results, Tryz.results44, go_sem, numOut, strL, hxc0, hxc1, hxc2]) rfl ⟨by rw [hV.out], ?_⟩
          (repeat' first | with_reducible refine Below.setCell ?_ ?_ _ | with_reducible refine Below.alloc ?_ ?_ _ | with_reducible refine Below.drew ?_ | with_reducible refine below_drewN ?_ _ | with_reducible assumption | with_reducible exact Below.refl _ _ | (simp only [World.size_alloc, World.size_setCell, World.size_drew]; first | done | omega) | omega)
         ·subst hd0
          obtain ⟨D, hD⟩ : ∃ D, strL (d' ++ [c]) = D := ⟨_, rfl⟩; rw [hD] at hy hds; have hDm : D.size = d'.length + 1 := by rw [hds]; simp
          have hDp : 0 < D.size := by omega
          have hDb : D.size <= 1048576 := by omega
          have hDn : D.size - 1 < D.size := by omega
          have hDi : 0 <= (D.size : Int) - 1 /\ (D.size : Int) - 1 < (D.size : Int) := by omega
          have hDl : D[D.size - 1]'hDn = c := by
           subst hD; rw [strL_at]; simp [size_strL]
          by_cases h48 : c = 48
          ·have d2 : (((D[D.size - 1]'hDn).toNat : Int) == 48) = true := by rw [hDl, h48]; rfl
           have hx2 : D.extract 0 (D.size - 1) = strL d' := by
            rw [<- hD, strL_ext, size_strL]; simp
           have ht2 : Lib.trimRightB d' 48 = valC ip fr := by rw [<- ht, trimR_snoc, if_pos h48]
           have hl2 : d'.length <= (valD ip fr).length := by simp at hdl; omega
           have he2 : e + 1 + d'.length = -(fr.length : Int) + P + (valD ip fr).length := by rw [<- he]; simp; omega
           have HT := Lib.hid ht2; have HE := Lib.hid he2; have hme : d'.length < D.size := by omega
           clear ht he hdl hds hDm hDl h48 hD ht2 he2; obtain ⟨D2, hD2⟩ : ∃ D2, strL d' = D2 := ⟨_, rfl⟩; have hsz2 := Lib.hid (show D2.size = d'.length by rw [<- hD2, size_strL])
           have HD2 := Lib.hid hD2; rw [hD2] at hx2; clear hD2; have hyc0 := hy.cell 0 _ rfl; have hyf0 := hy.frozen 0; have hyc1 := hy.cell 1 _ rfl; have hyf1 := hy.frozen 1; have hyc2 := hy.cell 2 _ rfl; have hyf2 := hy.frozen 2; go_wp2; go_roundw
           case rel => exact ⟨d', e + 1, HT.out, HE.out, hl2, (hx.setOther _ _ (by simp)).setOther _ _ (by simp), by rw [HD2.out]; exact (hy.set 1 (by simp) _).set 2 (by simp) _, by (repeat' first | with_reducible refine Below.setCell ?_ ?_ _ | with_reducible refine Below.alloc ?_ ?_ _ | with_reducible refine Below.drew ?_ | with_reducible refine below_drewN ?_ _ | with_reducible assumption | with_reducible exact Below.refl _ _ | (simp only [World.size_alloc, World.size_setCell, World.size_drew]; first | done | omega) | omega)⟩
           case measure =>
            have m1 := ((hy.set 1 (by simp) (.string D2)).set 2 (by simp) (.int .i64 (e + 1))).cell 1 _ rfl
            rw [m1, hyc1]; show D2.size < D.size; rw [hsz2.out]; exact hme
          ·have d2 : (((D[D.size - 1]'hDn).toNat : Int) == 48) = false := by rw [hDl]; exact u8_nb h48 rfl
           have hvc : d' ++ [c] = valC ip fr := by rw [<- ht, trimR_snoc, if_neg h48]
           have hDz : ((D.size : Int) == 0) = false := by rw [beq_eq_false_iff_ne]; omega
           have hRr := fun W => rNumRight_any neg D e W hDb
           have hV := Lib.hid (show numVal neg ip fr (powQ sg pw) = if numR neg D e then ((neg, valC ip fr, e), 0) else ((false, [], 0), 4) by
            have hc0 : valC ip fr ≠ [] := by rw [<- hvc]; simp
            have hEE : valE ip fr (powQ sg pw) = e := by
             have h1 := HP.out; have h2 : (valC ip fr).length <= (valD ip fr).length := trimR_le _; rw [valE, h1]; rw [hvc] at he; omega
            rw [numVal, if_neg hc0, hEE, show (⟨(valC ip fr).toArray⟩ : ByteArray) = D by rw [<- hvc]; exact hD])
           have HC := Lib.hid (show strL (valC ip fr) = D by rw [<- hvc]; exact hD)
           clear ht he hdl hds hDm hDl h48 hD hvc; have hxc0 := hx.cell 0 _ rfl; have hxf0 := hx.frozen 0; have hxc1 := hx.cell 1 _ rfl; have hxf1 := hx.frozen 1; have hxc2 := hx.cell 2 _ rfl; have hxf2 := hx.frozen 2; have hyc0 := hy.cell 0 _ rfl; have hyf0 := hy.frozen 0; have hyc1 := hy.cell 1 _ rfl; have hyf1 := hy.frozen 1; have hyc2 := hy.cell 2 _ rfl; have hyf2 := hy.frozen 2
           cases hr : numR neg D e with
           | true =>
            have hV2 := Lib.hid (show numVal neg ip fr (powQ sg pw) = ((neg, valC ip fr, e), 0) by rw [hV.out, if_pos hr])
            rw [hr] at hRr; clear hV hr; go_wp2_with fail; refine (hRr _).mono ?_; rintro _ w2 ⟨rfl, hb2⟩; have hx2 := hx.below hb2 hx.lt; have hy2 := hy.below hb2 hy.lt; have hb3 := hb.trans (hb2.mono hb.size); clear hb2 hxc0 hxc1 hxc2 hxf0 hxf1 hxf2 hyc0 hyc1 hyc2 hyf0 hyf1 hyf2; have hx2c0 := hx2.cell 0 _ rfl; have hx2f0 := hx2.frozen 0; have hx2c1 := hx2.cell 1 _ rfl; have hx2f1 := hx2.frozen 1; have hx2c2 := hx2.cell 2 _ rfl; have hx2f2 := hx2.frozen 2; have hy2c0 := hy2.cell 0 _ rfl; have hy2f0 := hy2.frozen 0; have hy2c1 := hy2.cell 1 _ rfl; have hy2f1 := hy2.frozen 1; have hy2c2 := hy2.cell 2 _ rfl; have hy2f2 := hy2.frozen 2; go_wp2; have hCe := HC.out; refine bodyPost_ret (v := numOut ((neg, valC ip fr, e), 0)) (by simp [results, Tryz.results44, go_sem, numOut, hCe, hx2c0, hx2c1, hx2c2]) rfl ⟨by rw [hV2.out], ?_⟩
            (repeat' first | with_reducible refine Below.setCell ?_ ?_ _ | with_reducible refine Below.alloc ?_ ?_ _ | with_reducible refine Below.drew ?_ | with_reducible refine below_drewN ?_ _ | with_reducible assumption | with_reducible exact Below.refl _ _ | (simp only [World.size_alloc, World.size_setCell, World.size_drew]; first | done | omega) | omega)
           | false =>
            have hV2 := Lib.hid (show numVal neg ip fr (powQ sg pw) = ((false, [], 0), 4) by rw [hV.out, if_neg (by rw [hr]; decide)])
            rw [hr] at hRr; clear hV hr; go_wp2_with fail; refine (hRr _).mono ?_; rintro _ w2 ⟨rfl, hb2⟩; have hx2 := hx.below hb2 hx.lt; have hy2 := hy.below hb2 hy.lt; have hb3 := hb.trans (hb2.mono hb.size); clear hb2 hxc0 hxc1 hxc2 hxf0 hxf1 hxf2 hyc0 hyc1 hyc2 hyf0 hyf1 hyf2; have hx2c0 := hx2.cell 0 _ rfl; have hx2f0 := hx2.frozen 0; have hx2c1 := hx2.cell 1 _ rfl; have hx2f1 := hx2.frozen 1; have hx2c2 := hx2.cell 2 _ rfl; have hx2f2 := hx2.frozen 2; have hy2c0 := hy2.cell 0 _ rfl; have hy2f0 := hy2.frozen 0; have hy2c1 := hy2.cell 1 _ rfl; have hy2f1 := hy2.frozen 1; have hy2c2 := hy2.cell 2 _ rfl; have hy2f2 := hy2.frozen 2; go_wp2; refine bodyPost_ret (v := numOut ((false, [], 0), 4)) (by simp [results, Tryz.results44, go_sem, numOut, strL, hx2c0, hx2c1, hx2c2]) rfl ⟨by rw [hV2.out], ?_⟩
            (repeat' first | with_reducible refine Below.setCell ?_ ?_ _ | with_reducible refine Below.alloc ?_ ?_ _ | with_reducible refine Below.drew ?_ | with_reducible refine below_drewN ?_ _ | with_reducible assumption | with_reducible exact Below.refl _ _ | (simp only [World.size_alloc, World.size_setCell, World.size_drew]; first | done | omega) | omega)
theorem rParseD_any (s : ByteArray) (w : World) (hs : s.size <= 1048576) :
  Calls Tryz.prog 44 #[.string s] w fun e w' => e = .returned (numOut (decR s.data.toList)) /\ Below w.heap.size w w' := by
 by_cases h : scanN s.data.toList = s.data.toList.length /\ s.data.toList ≠ []
 ·obtain ⟨neg, ip, fr, mk, sg, pw, hn⟩ := parts_of_scan _ h.1 h.2
  rw [hn.decR]; have h2 := rParse_good s neg ip fr mk sg pw w hs hn; rw [<- numVal_near neg ip fr sg pw hn.dpw (by have := hn.len.1; rw [<- size_list] at this; omega)] at h2
  exact h2
 ·have h2 : s.data.toList = [] \/ scanN s.data.toList ≠ s.size := by
   rw [size_list]
   by_cases h3 : s.data.toList = []
   ·exact .inl h3
   ·exact .inr (fun e => h ⟨e, h3⟩)
  rw [show decR s.data.toList = ((false, [], 0), 3) by unfold decR; rw [if_neg h]]
  exact rParse_bad s w hs h2
def OneP (w : World) (s : ByteArray) (k : Nat) (r : LR) : Ending -> World -> Prop := TellP w (lrT s k r).1 (lrT s k r).2.1 (lrT s k r).2.2
theorem tell_box {w w1 w2 : World} {l : List Tok} {a e : Int} {v : Value} (hb : Below w.heap.size w w1) (hbx : Cells w1 w.heap.size #[.slice none 0 0, .int .i64 0, .int .i64 0] 32) (hl : w1.heap.size <= w2.heap.size)
  (hown : OwnT w1.heap.size w2 v l) (hb2 : Below w1.heap.size w1 w2) :
  Cells w2 w.heap.size #[.slice none 0 0, .int .i64 0, .int .i64 0] 32 /\
  OwnT w.heap.size (setAll w2 w.heap.size 0 [v, .int .i64 a, .int .i64 e]) v l /\ Below w.heap.size w (setAll w2 w.heap.size 0 [v, .int .i64 a, .int .i64 e]) /\
  Cells (setAll w2 w.heap.size 0 [v, .int .i64 a, .int .i64 e]) w.heap.size #[v, .int .i64 a, .int .i64 e] 32 := by
 have hc := hbx.below hb2 hbx.lt; refine ⟨hc, ?_, setAll_below _ _ (Nat.le_refl _) _ _ _ _ (hb.trans (hb2.mono hb.size)), ?_⟩
 ·refine (hown.base_le hb.size).moved (fun k hk => setAll_other _ _ _ _ _ ?_)
  have h1 := (World.ownsRow.lt hown k hk).1; have h2 := hbx.lt; omega
 ·exact hc.put [v, .int .i64 a, .int .i64 e] 0
theorem one_line (s : ByteArray) (k : Nat) (w : World) (hs : s.size <= 1048576) (hk : k < s.size) (h : s[k]'hk = 10) :
  Calls Tryz.prog 27 #[.string s, .int .i64 (k : Nat)] w (OneP w s k (.tok 5 1)) := by
 have hcn : (s[k]'hk).toNat = 10 := by rw [h]; rfl
 clear h; have hb : Below w.heap.size w (w.alloc (.cells #[.slice none 0 0, .int .i64 0, .int .i64 0] 32)) := (Below.refl _ w).alloc (Nat.le_refl _) _; have hbx := Cells.new w #[.slice none 0 0, .int .i64 0, .int .i64 0] 32; have hT := token_any s k 1 5 (w.alloc (.cells #[.slice none 0 0, .int .i64 0, .int .i64 0] 32)) (by omega) (by omega)
 have hkp : k + 1 <= s.size := hk; go_enter Tryz.func27, Tryz.ntmps27; go_wp2_with fail; refine (hT).mono ?_; rintro _ w2 ⟨v, rfl, hown, hb2⟩; obtain ⟨hc2, hown2, hbe, -⟩ := tell_box (a := 0) (e := 0) hb hbx hb2.size hown hb2; obtain ⟨va, vc, hve⟩ := hown.len; simp only [List.length_cons, List.length_nil, Nat.zero_add] at hve; subst hve; have hl2 := hc2.lt; have HX := Lib.hid (And.intro hown2 (And.intro hbe hc2)); clear hown hb2 hown2 hbe hb hbx; have hc2c0 := hc2.cell 0 _ rfl; have hc2f0 := hc2.frozen 0; have hc2c1 := hc2.cell 1 _ rfl; have hc2f1 := hc2.frozen 1; have hc2c2 := hc2.cell 2 _ rfl; have hc2f2 := hc2.frozen 2; go_wp2; obtain ⟨hown2, hbe, hce⟩ := HX.out; have hq := ((hce.setI 0 (.slice va 1 vc)).setI 1 (.int .i64 0)).setI 2 (.int .i64 0); have hx := hq.cell 0 _ rfl; have hy := hq.cell 1 _ rfl; have hz := hq.cell 2 _ rfl; refine bodyPost_ret (v := .agg #[.slice va 1 vc, .int .i64 0, .int .i64 0]) (by simp [results, Tryz.results27, go_sem, hx, hy, hz]) rfl ?_
 exact ⟨_, rfl, hown2, hbe⟩
theorem one_word (s : ByteArray) (k : Nat) (w : World) (hs : s.size <= 1048576) (hk : k < s.size) (h10 : s[k]'hk ≠ 10) (h : letB (s[k]'hk) = true) :
  Calls Tryz.prog 27 #[.string s, .int .i64 (k : Nat)] w (OneP w s k (.tok 1 (1 + idN (s.data.toList.drop (k + 1))))) := by
 have d10 := u8_nb h10 (m := 10) rfl; have hLe := Letter_any (s[k]'hk); rw [h] at hLe; clear h h10; have hb : Below w.heap.size w (w.alloc (.cells #[.slice none 0 0, .int .i64 0, .int .i64 0] 32)) := (Below.refl _ w).alloc (Nat.le_refl _) _; have hbx := Cells.new w #[.slice none 0 0, .int .i64 0, .int .i64 0] 32; obtain ⟨q, hq⟩ : ∃ q, idN (s.data.toList.drop (k + 1)) = q := ⟨_, rfl⟩; rw [hq]; have hq2 : q <= s.size - (k + 1) := by rw [<- hq]; have := idN_le (s.data.toList.drop (k + 1)); rw [List.length_drop, <- size_list] at this; exact this
 have HQ := Lib.hid hq; clear hq; have hT := token_any s k (1 + q) 1 (w.alloc (.cells #[.slice none 0 0, .int .i64 0, .int .i64 0] 32)) (by omega) (by omega)
 have HH := Lib.hid (And.intro hb (And.intro hbx hT)); clear hb hbx hT; go_enter Tryz.func27, Tryz.ntmps27; go_wp2_with fail; refine (hLe _).mono ?_; rintro _ _ ⟨rfl, hw1⟩; cases hw1
 go_wp2_with fail; go_loop [5] (fun n => ∃ j : Nat, n = .int .i64 (j : Int) /\ 1 <= j /\ k + j <= s.size /\ j + idN (s.data.toList.drop (k + j)) = 1 + q) (fun n => s.size - (k + (intOf n).toNat))
 case atStart => exact ⟨1, rfl, Nat.le_refl _, hk, by rw [HQ.out]⟩
 case round =>
  clear HQ; obtain ⟨j, rfl, hj1, hj, hI⟩ := hrel
  by_cases hlt : k + j < s.size
  ·have hst := idN_step s.data.toList (k + j) (by rw [<- size_list]; exact hlt)
   rw [hst] at hI; have hLj := Letter_any (s[k + j]'hlt); rw [<- get_list hlt, show idB (s[k + j]'hlt) = (letB (s[k + j]'hlt) || dg (s[k + j]'hlt)) from rfl] at hI
   clear hst; have hbnd : 0 <= (k : Int) + j /\ (k : Int) + j < s.size := by omega
   have hbnd2 : 0 <= (k : Int) + j /\ (k : Int) + j < (s.size : Int) := hbnd
   cases hb : letB (s[k + j]'hlt) with
   | true =>
    rw [hb] at hI hLj; simp only [Bool.true_or, if_true] at hI; have HI := Lib.hid hI; clear hI hb; go_wp2_with fail; refine (hLj _).mono ?_; rintro _ _ ⟨rfl, hw1⟩; cases hw1
    go_wp2; go_round
    case rel => exact ⟨j + 1, by go_num, by omega, by omega, by have := HI.out; rw [show k + (j + 1) = k + j + 1 by omega]; omega⟩
    case measure => simp [intOf]; omega
   | false =>
    rw [hb] at hI hLj
    cases hd : dg (s[k + j]'hlt) with
    | true =>
     rw [hd] at hI; have hdr := dg_lt hd; simp only [Bool.or_true, if_true] at hI; have HI := Lib.hid hI; clear hI hb hd; go_wp2_with fail; refine (hLj _).mono ?_; rintro _ _ ⟨rfl, hw1⟩; cases hw1
     go_wp2; go_round
     case rel => exact ⟨j + 1, by go_num, by omega, by omega, by have := HI.out; rw [show k + (j + 1) = k + j + 1 by omega]; omega⟩
     case measure => simp [intOf]; omega
    | false =>
     rw [hd] at hI
     have hdr : (s[k + j]'hlt).toNat < 48 \/ (48 <= (s[k + j]'hlt).toNat /\ 57 < (s[k + j]'hlt).toNat) := by
      have : ¬ (48 <= (s[k + j]'hlt).toNat /\ (s[k + j]'hlt).toNat <= 57) := by simpa [dg, dig] using hd
      omega
     simp only [Bool.or_false, Bool.false_eq_true, if_false] at hI; have hjq : j = 1 + q := by omega
     clear hI hb hd; subst hjq; rcases hdr with hdr | hdr
     all_goals
      go_wp2_with fail; refine (hLj _).mono ?_; rintro _ _ ⟨rfl, hw1⟩; cases hw1
      go_wp2_with fail; obtain ⟨hb, hbx, hT⟩ := HH.out; refine (hT).mono ?_; rintro _ w2 ⟨v, rfl, hown, hb2⟩; obtain ⟨hc2, hown2, hbe, -⟩ := tell_box (a := 0) (e := 0) hb hbx hb2.size hown hb2; obtain ⟨va, vc, hve⟩ := hown.len; simp only [List.length_cons, List.length_nil, Nat.zero_add] at hve; subst hve; have hl2 := hc2.lt; have HX := Lib.hid (And.intro hown2 (And.intro hbe hc2)); clear hown hb2 hown2 hbe hb hbx; have hc2c0 := hc2.cell 0 _ rfl; have hc2f0 := hc2.frozen 0; have hc2c1 := hc2.cell 1 _ rfl; have hc2f1 := hc2.frozen 1; have hc2c2 := hc2.cell 2 _ rfl; have hc2f2 := hc2.frozen 2; go_wp2; obtain ⟨hown2, hbe, hce⟩ := HX.out; have hq := ((hce.setI 0 (.slice va 1 vc)).setI 1 (.int .i64 0)).setI 2 (.int .i64 0); have hx := hq.cell 0 _ rfl; have hy := hq.cell 1 _ rfl; have hz := hq.cell 2 _ rfl; refine bodyPost_ret (v := .agg #[.slice va 1 vc, .int .i64 0, .int .i64 0]) (by simp [results, Tryz.results27, go_sem, hx, hy, hz]) rfl ?_
      exact ⟨_, rfl, hown2, hbe⟩
  ·have hjs : k + j = s.size := by omega
   have he : idN (s.data.toList.drop (k + j)) = 0 := by rw [hjs, size_list, List.drop_length]; rfl
   rw [he] at hI; have hjq : j = 1 + q := by omega
   clear hI he; subst hjq; go_wp2_with fail; obtain ⟨hb, hbx, hT⟩ := HH.out; refine (hT).mono ?_; rintro _ w2 ⟨v, rfl, hown, hb2⟩; obtain ⟨hc2, hown2, hbe, -⟩ := tell_box (a := 0) (e := 0) hb hbx hb2.size hown hb2; obtain ⟨va, vc, hve⟩ := hown.len; simp only [List.length_cons, List.length_nil, Nat.zero_add] at hve; subst hve; have hl2 := hc2.lt; have HX := Lib.hid (And.intro hown2 (And.intro hbe hc2)); clear hown hb2 hown2 hbe hb hbx; have hc2c0 := hc2.cell 0 _ rfl; have hc2f0 := hc2.frozen 0; have hc2c1 := hc2.cell 1 _ rfl; have hc2f1 := hc2.frozen 1; have hc2c2 := hc2.cell 2 _ rfl; have hc2f2 := hc2.frozen 2; go_wp2; obtain ⟨hown2, hbe, hce⟩ := HX.out; have hq := ((hce.setI 0 (.slice va 1 vc)).setI 1 (.int .i64 0)).setI 2 (.int .i64 0); have hx := hq.cell 0 _ rfl; have hy := hq.cell 1 _ rfl; have hz := hq.cell 2 _ rfl; refine bodyPost_ret (v := .agg #[.slice va 1 vc, .int .i64 0, .int .i64 0]) (by simp [results, Tryz.results27, go_sem, hx, hy, hz]) rfl ?_
   exact ⟨_, rfl, hown2, hbe⟩
theorem ext_mid (s : ByteArray) (k n : Nat) : (s.extract k (k + n)).data.toList = (s.data.toList.drop k).take n := by rw [ext_list, List.drop_take]; congr 1; omega
theorem one_number (s : ByteArray) (k : Nat) (w : World) (hs : s.size <= 1048576) (hk : k < s.size) (hl : letB (s[k]'hk) = false) (h : dg (s[k]'hk) = true) :
  Calls Tryz.prog 27 #[.string s, .int .i64 (k : Nat)] w (OneP w s k (num1 (s.data.toList.drop k))) := by
 have d10 := u8_nb (dg_ne h (d := 10) rfl) (m := 10) rfl; have hdr := dg_lt h; have hLe := Letter_any (s[k]'hk); rw [hl] at hLe; have hS := fun W => rScan_any (s.extract k s.size) W (by rw [ByteArray.size_extract]; omega)
 rw [ext_drop] at hS; have hle := scanN_le (s.data.toList.drop k); rw [List.length_drop, <- size_list] at hle; have hP := fun W => rParseD_any (s.extract k (k + scanN (s.data.toList.drop k))) W (by rw [ByteArray.size_extract]; omega)
 rw [ext_mid] at hP; unfold num1 decE; clear hl h; generalize scanN (s.data.toList.drop k) = n at *; obtain ⟨⟨⟨b, d, x⟩, z⟩, hR⟩ : ∃ r, decR ((s.data.toList.drop k).take n) = r := ⟨_, rfl⟩; rw [hR] at hP ⊢; simp only [numOut] at hP ⊢; clear hR; have hb : Below w.heap.size w (w.alloc (.cells #[.slice none 0 0, .int .i64 0, .int .i64 0] 32)) := (Below.refl _ w).alloc (Nat.le_refl _) _; have hbx := Cells.new w #[.slice none 0 0, .int .i64 0, .int .i64 0] 32
 by_cases hz : z = 0
 ·subst hz
  rw [if_pos rfl]; go_enter Tryz.func27, Tryz.ntmps27; go_wp2_with fail; refine (hLe _).mono ?_; rintro _ _ ⟨rfl, hw1⟩; cases hw1
  go_wp2_with fail; refine (hS _).mono ?_; rintro _ _ ⟨rfl, hw1⟩; cases hw1
  go_wp2_with fail; refine (hP _).mono ?_; rintro _ w1 ⟨rfl, hb1⟩; have hbx1 := (hbx.below hb1 hbx.lt).alloc (.cells #[.bool b, .string (strL d), .int .i64 x] 83); have hb2 := (hb.trans (hb1.mono hb.size)).alloc (Nat.le_trans hb.size hb1.size) (.cells #[.bool b, .string (strL d), .int .i64 x] 83); clear hb hbx hb1 hP hS; have hb := hb2; have hbx := hbx1; clear hb2 hbx1; go_wp2_with fail; refine (token_any s k n 2 _ (by omega) (by omega)).mono ?_
  rintro _ w2 ⟨v, rfl, hown, hb2⟩; obtain ⟨hc2, hown2, hbe, -⟩ := tell_box (a := 0) (e := 0) hb hbx hb2.size hown hb2; obtain ⟨va, vc, hve⟩ := hown.len
  (try simp only [List.length_cons, List.length_nil, Nat.zero_add] at hve)
  subst hve; have hl2 := hc2.lt; have HX := Lib.hid (And.intro hown2 (And.intro hbe hc2)); clear hown hb2 hown2 hbe hb hbx; have hc2c0 := hc2.cell 0 _ rfl; have hc2f0 := hc2.frozen 0; have hc2c1 := hc2.cell 1 _ rfl; have hc2f1 := hc2.frozen 1; have hc2c2 := hc2.cell 2 _ rfl; have hc2f2 := hc2.frozen 2; go_wp2; obtain ⟨hown2, hbe, hce⟩ := HX.out; have hq := ((hce.setI 0 (.slice va 1 vc)).setI 1 (.int .i64 0)).setI 2 (.int .i64 0); have hx := hq.cell 0 _ rfl; have hy := hq.cell 1 _ rfl; have hz := hq.cell 2 _ rfl; refine bodyPost_ret (v := .agg #[.slice va 1 vc, .int .i64 0, .int .i64 0]) (by simp [results, Tryz.results27, go_sem, hx, hy, hz]) rfl ?_
  exact ⟨_, rfl, hown2, hbe⟩
 ·have hz2 : (z != 0) = true := by simpa using hz
  rw [if_neg hz]; go_enter Tryz.func27, Tryz.ntmps27; go_wp2_with fail; refine (hLe _).mono ?_; rintro _ _ ⟨rfl, hw1⟩; cases hw1
  go_wp2_with fail; refine (hS _).mono ?_; rintro _ _ ⟨rfl, hw1⟩; cases hw1
  go_wp2_with fail; refine (hP _).mono ?_; rintro _ w1 ⟨rfl, hb1⟩; have hbx1 := hbx.below hb1 hbx.lt; have HB := Lib.hid (hb.trans (hb1.mono hb.size)); have hl1 := hbx1.lt; have HC := Lib.hid hbx1; clear hb hbx hb1 hP hS; have hbx1c0 := hbx1.cell 0 _ rfl; have hbx1f0 := hbx1.frozen 0; have hbx1c1 := hbx1.cell 1 _ rfl; have hbx1f1 := hbx1.frozen 1; have hbx1c2 := hbx1.cell 2 _ rfl; have hbx1f2 := hbx1.frozen 2; clear hbx1; go_wp2; have hq := ((((HC.out).setI 0 (.slice none 0 0)).setI 1 (.int .i64 (k : Nat))).setI 2 (.int .i64 z)).alloc (.cells #[.bool b, .string (strL d), .int .i64 x] 83); have hx := hq.cell 0 _ rfl; have hy := hq.cell 1 _ rfl; have hz := hq.cell 2 _ rfl; refine bodyPost_ret (v := .agg #[.slice none 0 0, .int .i64 (k : Nat), .int .i64 z]) (by simp [results, Tryz.results27, go_sem, hx, hy, hz]) rfl ?_
  exact ⟨_, by simp [lrT], OwnT.nil, (setAll_below _ _ (Nat.le_refl _) [.slice none 0 0, .int .i64 (k : Nat), .int .i64 z] 0 _ _ HB.out).alloc (by rw [setAll_size]; exact HB.out.size) _⟩
theorem one_quoted (s : ByteArray) (k : Nat) (w : World) (hs : s.size <= 1048576) (hk : k < s.size) (h : s[k]'hk = 34) :
  Calls Tryz.prog 27 #[.string s, .int .i64 (k : Nat)] w (OneP w s k (quo1 (s.data.toList.drop k))) := by
 have hcn : (s[k]'hk).toNat = 34 := by rw [h]; rfl
 have hLe := Letter_any 34; rw [show letB 34 = false from rfl] at hLe; have hQ := fun W => qrScan_any (s.extract k s.size) W (by rw [ByteArray.size_extract]; omega)
 rw [show bs (s.extract k s.size) = nb (s.data.toList.drop k) by unfold bs nb; rw [ext_drop]] at hQ
 unfold quo1; have hsz := fun h => (scanQ_size (nb_byt (s.data.toList.drop k)) h).2; rw [nb_len, List.length_drop, <- size_list] at hsz; clear h; generalize scanQ (nb (s.data.toList.drop k)) = q at *; obtain ⟨qs, qn, qe⟩ := q; simp only [partV] at hQ hsz ⊢; generalize strOf (un qs) = qs at *; have hb : Below w.heap.size w (w.alloc (.cells #[.slice none 0 0, .int .i64 0, .int .i64 0] 32)) := (Below.refl _ w).alloc (Nat.le_refl _) _; have hbx := Cells.new w #[.slice none 0 0, .int .i64 0, .int .i64 0] 32
 by_cases he : qe = 0
 ·subst he
  have hle := hsz rfl; rw [if_pos rfl]; clear hsz; go_enter Tryz.func27, Tryz.ntmps27; go_wp2_with fail; refine (hLe _).mono ?_; rintro _ _ ⟨rfl, hw1⟩; cases hw1
  go_wp2_with fail; refine (hQ _).mono ?_; rintro _ w1 ⟨rfl, hb1⟩; have hbx1 := (hbx.below hb1 hbx.lt).alloc (.cells #[.string qs, .int .i64 (qn : Int), .int .i64 ((0 : Nat) : Int)] 87); have hb2 := (hb.trans (hb1.mono hb.size)).alloc (Nat.le_trans hb.size hb1.size) (.cells #[.string qs, .int .i64 (qn : Int), .int .i64 ((0 : Nat) : Int)] 87); clear hb hbx hb1 hQ; have hb := hb2; have hbx := hbx1; clear hb2 hbx1; go_wp2_with fail; refine (token_any s k qn 3 _ (by omega) (by omega)).mono ?_
  rintro _ w2 ⟨v, rfl, hown, hb2⟩; obtain ⟨hc2, hown2, hbe, -⟩ := tell_box (a := 0) (e := 0) hb hbx hb2.size hown hb2; obtain ⟨va, vc, hve⟩ := hown.len
  (try simp only [List.length_cons, List.length_nil, Nat.zero_add] at hve)
  subst hve; have hl2 := hc2.lt; have HX := Lib.hid (And.intro hown2 (And.intro hbe hc2)); clear hown hb2 hown2 hbe hb hbx; have hc2c0 := hc2.cell 0 _ rfl; have hc2f0 := hc2.frozen 0; have hc2c1 := hc2.cell 1 _ rfl; have hc2f1 := hc2.frozen 1; have hc2c2 := hc2.cell 2 _ rfl; have hc2f2 := hc2.frozen 2; go_wp2; obtain ⟨hown2, hbe, hce⟩ := HX.out; have hq := ((hce.setI 0 (.slice va 1 vc)).setI 1 (.int .i64 0)).setI 2 (.int .i64 0); have hx := hq.cell 0 _ rfl; have hy := hq.cell 1 _ rfl; have hz := hq.cell 2 _ rfl; refine bodyPost_ret (v := .agg #[.slice va 1 vc, .int .i64 0, .int .i64 0]) (by simp [results, Tryz.results27, go_sem, hx, hy, hz]) rfl ?_
  exact ⟨_, rfl, hown2, hbe⟩
 ·have he2 : ((qe : Int) != 0) = true := by rw [bne_iff_ne]; omega
  rw [if_neg (by omega)]
  clear he hsz; go_enter Tryz.func27, Tryz.ntmps27; go_wp2_with fail; refine (hLe _).mono ?_; rintro _ _ ⟨rfl, hw1⟩; cases hw1
  go_wp2_with fail; refine (hQ _).mono ?_; rintro _ w1 ⟨rfl, hb1⟩; have hbx1 := hbx.below hb1 hbx.lt; have HB := Lib.hid (hb.trans (hb1.mono hb.size)); have hl1 := hbx1.lt; have HC := Lib.hid hbx1; clear hb hbx hb1 hQ; have hbx1c0 := hbx1.cell 0 _ rfl; have hbx1f0 := hbx1.frozen 0; have hbx1c1 := hbx1.cell 1 _ rfl; have hbx1f1 := hbx1.frozen 1; have hbx1c2 := hbx1.cell 2 _ rfl; have hbx1f2 := hbx1.frozen 2; clear hbx1; go_wp2; have hq := ((((HC.out).setI 0 (.slice none 0 0)).setI 1 (.int .i64 (k : Nat))).setI 2 (.int .i64 (qe : Nat))).alloc (.cells #[.string qs, .int .i64 (qn : Int), .int .i64 (qe : Int)] 87); have hx := hq.cell 0 _ rfl; have hy := hq.cell 1 _ rfl; have hz := hq.cell 2 _ rfl; refine bodyPost_ret (v := .agg #[.slice none 0 0, .int .i64 (k : Nat), .int .i64 (qe : Nat)]) (by simp [results, Tryz.results27, go_sem, hx, hy, hz]) rfl ?_
  exact ⟨_, by simp [lrT], OwnT.nil, (setAll_below _ _ (Nat.le_refl _) [.slice none 0 0, .int .i64 (k : Nat), .int .i64 (qe : Nat)] 0 _ _ HB.out).alloc (by rw [setAll_size]; exact HB.out.size) _⟩
theorem trimS_snoc (a : Bs) (b : UInt8) (cs : Bs) : Lib.trimRightS (a ++ [b]) cs = if cs.contains b then Lib.trimRightS a cs else a ++ [b] := by
 unfold Lib.trimRightS; rw [List.reverse_append, List.reverse_singleton, List.singleton_append, List.dropWhile_cons]
 by_cases h : cs.contains b = true
 ·rw [if_pos h, if_pos h]
 ·rw [if_neg h, if_neg h]; simp
theorem lineN_pre (l : Bs) {c : UInt8} {r : Bs} (h : l = c :: r) (hc : c ≠ 10) : 1 <= lineN l := by
 rw [h, lineN, if_neg hc]; omega
theorem one_remark (s : ByteArray) (k : Nat) (w : World) (hs : s.size <= 1048576) (hk : k < s.size) (hc : s[k]'hk = 35 \/ (s[k]'hk = 47 /\ (s.data.toList.drop (k + 1)).head? = some 47)) :
  Calls Tryz.prog 27 #[.string s, .int .i64 (k : Nat)] w (OneP w s k (remT (remS (s.data.toList.drop k)) 6)) := by
 have hd := drop_at hk; obtain ⟨L, hL⟩ : ∃ L, (s.data.toList.drop k).take (lineN (s.data.toList.drop k)) = L := ⟨_, rfl⟩; obtain ⟨ln, hln⟩ : ∃ ln, lineN (s.data.toList.drop k) = ln := ⟨_, rfl⟩; have hle := lineN_le (s.data.toList.drop k); rw [hln, List.length_drop, <- size_list] at hle; have hLl : L.length = ln := by rw [<- hL, hln, List.length_take, List.length_drop, <- size_list]; omega
 have hrs : remS (s.data.toList.drop k) = Lib.trimRightS L blanksB := by unfold remS; rw [hL]
 have hlt : ∀ j, j <= ln -> (s.data.toList.take (k + j)).drop k = L.take j := by
  intro j hj; rw [<- hL, hln, List.take_take, Nat.min_eq_left hj, List.drop_take]; congr 1; omega
 have hget : ∀ j, j < ln -> ∃ h2 : k + j < s.size, L[j]? = some (s[k + j]'h2) := by
  intro j h1; have h2 : k + j < s.size := by omega
  have h3 : (s.data.toList.drop k)[j]? = some (s[k + j]'h2) := by
   rw [List.getElem?_drop, get_list, List.getElem?_eq_getElem]
  refine ⟨h2, ?_⟩; rw [<- h3, <- hL, List.getElem?_take, if_pos (by omega)]
 have h1 : 1 <= ln := by
  rw [<- hln]; refine lineN_pre _ hd ?_; rcases hc with h | ⟨h, -⟩ <;> rw [h] <;> decide
 have hb0 : blankB (s[k]'hk) = false := by rcases hc with h | ⟨h, -⟩ <;> rw [h] <;> rfl
 have hE := fun W => end_any s k W (by omega) (by omega)
 rw [hln] at hE; rw [hrs]; have hIs := fun W => is_any s k ⟨#[47, 47]⟩ W (by omega) (by omega) (by decide)
 rw [show (⟨#[47, 47]⟩ : ByteArray).data.toList.isPrefixOf (s.data.toList.drop k) = decide (s[k]'hk = 47 /\ (s.data.toList.drop (k + 1)).head? = some 47) by rw [hd]; exact pfx2 47 47 _ _] at hIs
 have hCm := fun j W (hj : j <= ln) => comment_any s k (k + j) 6 W hs (by omega) (by omega)
 have hCm2 : ∀ j W, j <= ln -> Calls Tryz.prog 48 #[.string s, .int .i64 (k : Nat), .int .i64 ((k + j : Nat) : Int), .int .i64 ((6 : Nat) : Int)] W (TellP W (lrT s k (remT (L.take j) 6)).1 (lrT s k (remT (L.take j) 6)).2.1 (lrT s k (remT (L.take j) 6)).2.2) := fun j W hj => by
  have := hCm j W hj; rw [hlt j hj] at this; exact this
 have HCM := Lib.hid hCm2; have HG := Lib.hid hget; have HB0 := Lib.hid hb0; have HLL := Lib.hid hLl; clear hCm hCm2 hlt hL hln hd hrs hget hb0 hLl; have hb : Below w.heap.size w (w.alloc (.cells #[.slice none 0 0, .int .i64 0, .int .i64 0] 32)) := (Below.refl _ w).alloc (Nat.le_refl _) _; have hbx := Cells.new w #[.slice none 0 0, .int .i64 0, .int .i64 0] 32; have HH := Lib.hid (And.intro hb hbx); rcases hc with hc | ⟨hc, hr⟩
 ·have hcn : (s[k]'hk).toNat = 35 := by rw [hc]; rfl
  have hLe := Letter_any 35; rw [show letB 35 = false from rfl] at hLe; clear hc hIs hb hbx; go_enter Tryz.func27, Tryz.ntmps27; go_wp2_with fail; refine (hLe _).mono ?_; rintro _ _ ⟨rfl, hw1⟩; cases hw1
  go_wp2_with fail; refine (hE _).mono ?_; rintro _ _ ⟨rfl, hw1⟩; cases hw1
  go_wp2_with fail; go_loop [10] (fun n => ∃ m : Nat, n = .int .i64 (((k + m : Nat) : Int) + 1) /\ m < ln /\ Lib.trimRightS (L.take (m + 1)) blanksB = Lib.trimRightS L blanksB) (fun n => (intOf n).toNat)
  case atStart => exact ⟨ln - 1, by congr 1; omega, by omega, by rw [List.take_of_length_le (by rw [HLL.out]; omega)]⟩
  case round =>
   obtain ⟨m, rfl, hm, hI⟩ := hrel; obtain ⟨hjs, hjg⟩ := HG.out m hm; have hTk : L.take (m + 1) = L.take m ++ [s[k + m]'hjs] := by rw [List.take_add_one, hjg]; rfl
   rw [hTk, trimS_snoc, <- hTk] at hI; have hBl := Blank_any (s[k + m]'hjs)
   cases hbl : blankB (s[k + m]'hjs) with
   | true =>
    rw [hbl] at hBl; rw [show blanksB.contains (s[k + m]'hjs) = true from hbl, if_pos rfl] at hI
    have hm0 : m ≠ 0 := by
     rintro rfl; have := HB0.out; simp only [Nat.add_zero] at hbl; rw [hbl] at this; cases this
    have HI := Lib.hid hI; clear hI hTk hjg hbl; go_wp2_with fail; refine (hBl _).mono ?_; rintro _ _ ⟨rfl, hw1⟩; cases hw1
    go_wp2; go_round
    case rel => exact ⟨m - 1, by congr 1; omega, by omega, by rw [show m - 1 + 1 = m by omega]; exact HI.out⟩
    case measure => simp [intOf]; omega
   | false =>
    rw [hbl] at hBl; rw [show blanksB.contains (s[k + m]'hjs) = false from hbl, if_neg (by simp)] at hI
    have HI := Lib.hid hI; have hC := HCM.out (m + 1) (w.alloc (.cells #[.slice none 0 0, .int .i64 0, .int .i64 0] 32)) hm; rw [show ((k + (m + 1) : Nat) : Int) = ((k + m : Nat) : Int) + 1 by omega] at hC
    clear hI hTk hjg hbl; obtain ⟨⟨tl, ta, te⟩, hx⟩ : ∃ x, lrT s k (remT (L.take (m + 1)) 6) = x := ⟨_, rfl⟩; rw [hx] at hC; have HX0 := Lib.hid hx; clear hx; simp only at hC; go_wp2_with fail; refine (hBl _).mono ?_; rintro _ _ ⟨rfl, hw1⟩; cases hw1
    go_wp2_with fail; obtain ⟨hb, hbx⟩ := HH.out; refine (hC).mono ?_; rintro _ w2 ⟨v, rfl, hown, hb2⟩; obtain ⟨hc2, hown2, hbe, -⟩ := tell_box (a := ta) (e := te) hb hbx hb2.size hown hb2; obtain ⟨va, vc, hve⟩ := hown.len
    (try simp only [List.length_cons, List.length_nil, Nat.zero_add] at hve)
    subst hve; have hl2 := hc2.lt; have HX := Lib.hid (And.intro hown2 (And.intro hbe hc2)); clear hown hb2 hown2 hbe hb hbx; have hc2c0 := hc2.cell 0 _ rfl; have hc2f0 := hc2.frozen 0; have hc2c1 := hc2.cell 1 _ rfl; have hc2f1 := hc2.frozen 1; have hc2c2 := hc2.cell 2 _ rfl; have hc2f2 := hc2.frozen 2; go_wp2; obtain ⟨hown2, hbe, hce⟩ := HX.out; have hq := ((hce.setI 0 (.slice va tl.length vc)).setI 1 (.int .i64 ta)).setI 2 (.int .i64 te); have hx := hq.cell 0 _ rfl; have hy := hq.cell 1 _ rfl; have hz := hq.cell 2 _ rfl; refine bodyPost_ret (v := .agg #[.slice va tl.length vc, .int .i64 ta, .int .i64 te]) (by simp [results, Tryz.results27, go_sem, hx, hy, hz]) rfl ?_
    unfold OneP; rw [<- HI.out, HX0.out]; exact ⟨_, rfl, hown2, hbe⟩
 ·have hcn : (s[k]'hk).toNat = 47 := by rw [hc]; rfl
  have hLe := Letter_any 47; rw [show letB 47 = false from rfl] at hLe; rw [decide_eq_true ⟨hc, hr⟩] at hIs; clear hc hr hb hbx; go_enter Tryz.func27, Tryz.ntmps27; go_wp2_with fail; refine (hLe _).mono ?_; rintro _ _ ⟨rfl, hw1⟩; cases hw1
  go_wp2_with fail; refine (hIs _).mono ?_; rintro _ _ ⟨rfl, hw1⟩; cases hw1
  go_wp2_with fail; refine (hE _).mono ?_; rintro _ _ ⟨rfl, hw1⟩; cases hw1
  go_wp2_with fail; go_loop [10] (fun n => ∃ m : Nat, n = .int .i64 (((k + m : Nat) : Int) + 1) /\ m < ln /\ Lib.trimRightS (L.take (m + 1)) blanksB = Lib.trimRightS L blanksB) (fun n => (intOf n).toNat)
  case atStart => exact ⟨ln - 1, by congr 1; omega, by omega, by rw [List.take_of_length_le (by rw [HLL.out]; omega)]⟩
  case round =>
   obtain ⟨m, rfl, hm, hI⟩ := hrel; obtain ⟨hjs, hjg⟩ := HG.out m hm; have hTk : L.take (m + 1) = L.take m ++ [s[k + m]'hjs] := by rw [List.take_add_one, hjg]; rfl
   rw [hTk, trimS_snoc, <- hTk] at hI; have hBl := Blank_any (s[k + m]'hjs)
   cases hbl : blankB (s[k + m]'hjs) with
   | true =>
    rw [hbl] at hBl; rw [show blanksB.contains (s[k + m]'hjs) = true from hbl, if_pos rfl] at hI
    have hm0 : m ≠ 0 := by
     rintro rfl; have := HB0.out; simp only [Nat.add_zero] at hbl; rw [hbl] at this; cases this
    have HI := Lib.hid hI; clear hI hTk hjg hbl; go_wp2_with fail; refine (hBl _).mono ?_; rintro _ _ ⟨rfl, hw1⟩; cases hw1
    go_wp2; go_round
    case rel => exact ⟨m - 1, by congr 1; omega, by omega, by rw [show m - 1 + 1 = m by omega]; exact HI.out⟩
    case measure => simp [intOf]; omega
   | false =>
    rw [hbl] at hBl; rw [show blanksB.contains (s[k + m]'hjs) = false from hbl, if_neg (by simp)] at hI
    have HI := Lib.hid hI; have hC := HCM.out (m + 1) (w.alloc (.cells #[.slice none 0 0, .int .i64 0, .int .i64 0] 32)) hm; rw [show ((k + (m + 1) : Nat) : Int) = ((k + m : Nat) : Int) + 1 by omega] at hC
    clear hI hTk hjg hbl; obtain ⟨⟨tl, ta, te⟩, hx⟩ : ∃ x, lrT s k (remT (L.take (m + 1)) 6) = x := ⟨_, rfl⟩; rw [hx] at hC; have HX0 := Lib.hid hx; clear hx; simp only at hC; go_wp2_with fail; refine (hBl _).mono ?_; rintro _ _ ⟨rfl, hw1⟩; cases hw1
    go_wp2_with fail; obtain ⟨hb, hbx⟩ := HH.out; refine (hC).mono ?_; rintro _ w2 ⟨v, rfl, hown, hb2⟩; obtain ⟨hc2, hown2, hbe, -⟩ := tell_box (a := ta) (e := te) hb hbx hb2.size hown hb2; obtain ⟨va, vc, hve⟩ := hown.len
    (try simp only [List.length_cons, List.length_nil, Nat.zero_add] at hve)
    subst hve; have hl2 := hc2.lt; have HX := Lib.hid (And.intro hown2 (And.intro hbe hc2)); clear hown hb2 hown2 hbe hb hbx; have hc2c0 := hc2.cell 0 _ rfl; have hc2f0 := hc2.frozen 0; have hc2c1 := hc2.cell 1 _ rfl; have hc2f1 := hc2.frozen 1; have hc2c2 := hc2.cell 2 _ rfl; have hc2f2 := hc2.frozen 2; go_wp2; obtain ⟨hown2, hbe, hce⟩ := HX.out; have hq := ((hce.setI 0 (.slice va tl.length vc)).setI 1 (.int .i64 ta)).setI 2 (.int .i64 te); have hx := hq.cell 0 _ rfl; have hy := hq.cell 1 _ rfl; have hz := hq.cell 2 _ rfl; refine bodyPost_ret (v := .agg #[.slice va tl.length vc, .int .i64 ta, .int .i64 te]) (by simp [results, Tryz.results27, go_sem, hx, hy, hz]) rfl ?_
    unfold OneP; rw [<- HI.out, HX0.out]; exact ⟨_, rfl, hown2, hbe⟩
theorem endN_line : ∀ D : Bs, (∀ n, endN (D.take (lineN D)) = some n -> endN D = some n /\ (D.take n).contains 10 = false) /\ (endN (D.take (lineN D)) = none -> endN D = none \/ ∃ n, endN D = some n /\ (D.take n).contains 10 = true)
 | [] => ⟨(fun n h => by cases h), fun _ => .inl rfl⟩
 | c :: D => by
  obtain ⟨h1, h2⟩ := endN_line D
  by_cases hc : c = 10
  ·subst hc
   rw [lineN, if_pos rfl, List.take_zero]; refine ⟨(fun n h => by cases h), fun _ => ?_⟩
   rw [endN, if_neg (by rintro ⟨h, -⟩; revert h; decide)]
   cases hd : endN D with
   | none => exact .inl rfl
   | some n => exact .inr ⟨n + 1, rfl, by simp⟩
  ·rw [lineN, if_neg hc, List.take_succ_cons]
   have hh : (D.take (lineN D)).head? = some 47 ↔ D.head? = some 47 := by
    cases D with
    | nil => simp
    | cons d D =>
     rw [lineN]
     by_cases hd : d = 10
     ·subst hd; simp
     ·rw [if_neg hd]; simp
   rw [endN, endN]
   by_cases hcc : c = 42 /\ D.head? = some 47
   ·rw [if_pos ⟨hcc.1, hh.2 hcc.2⟩, if_pos hcc]
    exact ⟨fun n h => by cases h; exact ⟨rfl, by simp⟩, fun h => by cases h⟩
   ·rw [if_neg (fun h => hcc ⟨h.1, hh.1 h.2⟩), if_neg hcc]
    have hcb : (c == 10) = false := by simpa using hc
    have hcb2 : ((10 : UInt8) == c) = false := by simpa using fun e : (10 : UInt8) = c => hc e.symm
    refine ⟨fun n h => ?_, fun h => ?_⟩
    ·obtain ⟨m, hm, rfl⟩ := Option.map_eq_some_iff.1 h
     obtain ⟨h3, h4⟩ := h1 m hm; rw [h3]; exact ⟨rfl, by rw [List.take_succ_cons, List.contains_cons, h4, hcb2]; rfl⟩
    ·rcases h2 (Option.map_eq_none_iff.1 h) with h3 | ⟨n, h3, h4⟩
     ·left; rw [h3]; rfl
     ·right; rw [h3]
      exact ⟨n + 1, rfl, by rw [List.take_succ_cons, List.contains_cons, h4]; simp⟩
theorem aside_line {c d : UInt8} {D : Bs} (hc : c ≠ 10) (hd : d ≠ 10) :
  (∀ n, endN (D.take (lineN D)) = some n -> aside1 (c :: d :: D) = remT ((c :: d :: D).take (n + 4)) 7) /\ (endN (D.take (lineN D)) = none -> aside1 (c :: d :: D) = .bad 0 2) := by
 obtain ⟨h1, h2⟩ := endN_line D; have hcb : ((10 : UInt8) == c) = false := by simpa using fun e : (10 : UInt8) = c => hc e.symm
 have hdb : ((10 : UInt8) == d) = false := by simpa using fun e : (10 : UInt8) = d => hd e.symm
 have ht : ∀ n, ((c :: d :: D).take (n + 2)).contains 10 = (D.take n).contains 10 := by
  intro n; rw [List.take_succ_cons, List.take_succ_cons, List.contains_cons, List.contains_cons, hcb, hdb, Bool.false_or, Bool.false_or]
 refine ⟨fun n h => ?_, fun h => ?_⟩
 ·obtain ⟨h3, h4⟩ := h1 n h
  unfold aside1; simp only [List.drop_succ_cons, List.drop_zero]; rw [h3]; simp only; rw [ht, h4, if_neg (by simp)]
 ·unfold aside1
  simp only [List.drop_succ_cons, List.drop_zero]; rcases h2 h with h3 | ⟨n, h3, h4⟩
  ·rw [h3]
  ·rw [h3]
   simp only; rw [ht, h4, if_pos rfl]
theorem endN_drop : ∀ (E : Bs) (t : Nat), (∀ j, j < t -> ([42, 47] : Bs).isPrefixOf (E.drop j) = false) -> ([42, 47] : Bs).isPrefixOf (E.drop t) = true -> endN E = some t
 | [], t, _, h => by simp [List.isPrefixOf] at h
 | c :: E, 0, _, h => by
  rw [List.drop_zero, pfx2] at h; rw [endN, if_pos (by simpa using h)]
 | c :: E, t + 1, h1, h => by
  have h0 := h1 0 (by omega)
  rw [List.drop_zero, pfx2] at h0; rw [endN, if_neg (by simpa using h0), endN_drop E t (fun j hj => by have := h1 (j + 1) (by omega); simpa using this) (by simpa using h)]
  rfl
theorem endN_no : ∀ (E : Bs), (∀ j, j < E.length -> ([42, 47] : Bs).isPrefixOf (E.drop j) = false) -> endN E = none
 | [], _ => rfl
 | c :: E, h1 => by
  have h0 := h1 0 (by simp)
  rw [List.drop_zero, pfx2] at h0; rw [endN, if_neg (by simpa using h0), endN_no E (fun j hj => by have := h1 (j + 1) (by simp; omega); simpa using this)]
  rfl
theorem one_aside (s : ByteArray) (k : Nat) (w : World) (hs : s.size <= 1048576) (hk : k < s.size) (hc : s[k]'hk = 47) (hr : (s.data.toList.drop (k + 1)).head? = some 42) :
  Calls Tryz.prog 27 #[.string s, .int .i64 (k : Nat)] w (OneP w s k (aside1 (s.data.toList.drop k))) := by
 have hd := drop_at hk; rw [hc] at hd
 obtain ⟨D, hD⟩ : ∃ D, s.data.toList.drop (k + 1) = 42 :: D := by
  cases hq : s.data.toList.drop (k + 1) with
  | nil => rw [hq] at hr; cases hr
  | cons d D => rw [hq] at hr; simp at hr; subst hr; exact ⟨D, rfl⟩
 rw [hD] at hd
 have hD2 : s.data.toList.drop (k + 2) = D := by
  have := congrArg (List.drop 1) hD; rw [List.drop_drop] at this
  simpa using this
 have hDl : D.length = s.size - (k + 2) := by rw [<- hD2, List.length_drop, <- size_list]
 have h2s : k + 2 <= s.size := by have := congrArg List.length hD; rw [List.length_drop, <- size_list, List.length_cons] at this; omega
 obtain ⟨ln, hln⟩ : ∃ ln, lineN D = ln := ⟨_, rfl⟩; have hlnl := lineN_le D; rw [hln, hDl] at hlnl; have hE := fun W => end_any s k W (by omega) (by omega)
 rw [hd, lineN, if_neg (by decide), lineN, if_neg (by decide), hln] at hE
 have hI1 := fun W => is_any s k ⟨#[47, 47]⟩ W (by omega) (by omega) (by decide)
 rw [hd, show (⟨#[47, 47]⟩ : ByteArray).data.toList.isPrefixOf (47 :: 42 :: D) = false from rfl] at hI1; have hI2 := fun W => is_any s k ⟨#[47, 42]⟩ W (by omega) (by omega) (by decide)
 rw [hd, show (⟨#[47, 42]⟩ : ByteArray).data.toList.isPrefixOf (47 :: 42 :: D) = true from rfl] at hI2; obtain ⟨al1, al2⟩ := aside_line (c := 47) (d := 42) (D := D) (by decide) (by decide)
 rw [hln] at al1 al2; rw [hd]
 have hIs : ∀ t W, t <= ln -> Calls Tryz.prog 46 #[.string (s.extract 0 (k + 2 + ln)), .int .i64 ((k + 2 + t : Nat) : Int), .string ⟨#[42, 47]⟩] W fun e w' => e = .returned (.bool (([42, 47] : Bs).isPrefixOf ((D.take ln).drop t))) /\ W = w' := fun t W ht => by
  have h := is_any (s.extract 0 (k + 2 + ln)) (k + 2 + t) ⟨#[42, 47]⟩ W (by rw [ext_size (by omega)]; omega) (by rw [ext_size (by omega)]; omega) (by decide)
  rw [ext_take] at h
  have e : (s.data.toList.take (k + 2 + ln)).drop (k + 2 + t) = (D.take ln).drop t := by
   rw [<- List.drop_drop, <- hD2]
   congr 1
   rw [List.drop_take]; congr 1; omega
  rw [e] at h; exact h
 have hCm : ∀ t W, t + 2 <= ln -> Calls Tryz.prog 48 #[.string s, .int .i64 (k : Nat), .int .i64 ((k + 2 + t + 2 : Nat) : Int), .int .i64 ((7 : Nat) : Int)] W (TellP W (lrT s k (remT ((47 :: 42 :: D).take (t + 4)) 7)).1 (lrT s k (remT ((47 :: 42 :: D).take (t + 4)) 7)).2.1 (lrT s k (remT ((47 :: 42 :: D).take (t + 4)) 7)).2.2) := fun t W ht => by
  have h := comment_any s k (k + 2 + t + 2) 7 W hs (by omega) (by omega)
  have e : (s.data.toList.take (k + 2 + t + 2)).drop k = (47 :: 42 :: D).take (t + 4) := by
   rw [<- hd, List.drop_take]; congr 1; omega
  rw [e] at h; exact h
 have hEl : (D.take ln).length = ln := by rw [List.length_take]; omega
 have hpl : ∀ t, ([42, 47] : Bs).isPrefixOf ((D.take ln).drop t) = true -> t + 2 <= ln := by
  intro t ht; have := (List.isPrefixOf_iff_prefix.1 ht).length_le; rw [List.length_drop, hEl] at this; simp at this; omega
 have hle1 := Letter_any 47; rw [show letB 47 = false from rfl] at hle1; have hcn : (s[k]'hk).toNat = 47 := by rw [hc]; rfl
 have HCM := Lib.hid hCm; have HA := Lib.hid (And.intro al1 al2); have HPL := Lib.hid hpl; have HEL := Lib.hid hEl; clear hd hD hD2 hDl hln hr hCm hpl hEl hc al1 al2; generalize hW : (47 :: 42 :: D : Bs) = W0 at *; generalize D.take ln = E at *; clear hW; have hb : Below w.heap.size w (w.alloc (.cells #[.slice none 0 0, .int .i64 0, .int .i64 0] 32)) := (Below.refl _ w).alloc (Nat.le_refl _) _; have hbx := Cells.new w #[.slice none 0 0, .int .i64 0, .int .i64 0] 32; have HH := Lib.hid (And.intro hb hbx); clear hb hbx; go_enter Tryz.func27, Tryz.ntmps27; go_wp2_with fail; refine (hle1 _).mono ?_; rintro _ _ ⟨rfl, hw1⟩; cases hw1
 go_wp2_with fail; refine (hI1 _).mono ?_; rintro _ _ ⟨rfl, hw1⟩; cases hw1
 go_wp2_with fail; refine (hI2 _).mono ?_; rintro _ _ ⟨rfl, hw1⟩; cases hw1
 go_wp2_with fail; refine (hE _).mono ?_; rintro _ _ ⟨rfl, hw1⟩; cases hw1
 rw [show ((k + (ln + 1 + 1) : Nat) : Int) = ((k + 2 + ln : Nat) : Int) by omega]
 clear hle1 hI1 hI2 hE; go_wp2_with fail; go_loop [12] (fun n => ∃ t : Nat, n = .int .i64 ((k + 2 + t : Nat) : Int) /\ t <= ln /\ ∀ j, j < t -> ([42, 47] : Bs).isPrefixOf (E.drop j) = false) (fun n => s.size - (intOf n).toNat)
 case atStart => exact ⟨0, by congr 1, Nat.zero_le _, fun j hj => by omega⟩
 case round =>
  obtain ⟨t, rfl, ht, hno⟩ := hrel; have HN := Lib.hid hno; clear hno
  by_cases hlt : t < ln
  ·have hI := fun W => hIs t W ht
   cases hp : ([42, 47] : Bs).isPrefixOf (E.drop t) with
   | true =>
    rw [hp] at hI; have hen := HA.out.1 t (endN_drop E t HN.out hp); have hC := HCM.out t (w.alloc (.cells #[.slice none 0 0, .int .i64 0, .int .i64 0] 32)) (HPL.out t hp); rw [hen]; rw [show ((k + 2 + t + 2 : Nat) : Int) = ((k + 2 + t : Nat) : Int) + 2 by omega] at hC
    unfold OneP; obtain ⟨⟨tl, ta, te⟩, hx⟩ : ∃ x, lrT s k (remT (W0.take (t + 4)) 7) = x := ⟨_, rfl⟩; rw [hx] at hC ⊢; simp only at hC ⊢; clear hx hen hp; go_wp2_with fail; refine (hI _).mono ?_; rintro _ _ ⟨rfl, hw1⟩; cases hw1
    go_wp2_with fail; obtain ⟨hb, hbx⟩ := HH.out; refine (hC).mono ?_; rintro _ w2 ⟨v, rfl, hown, hb2⟩; obtain ⟨hc2, hown2, hbe, -⟩ := tell_box (a := ta) (e := te) hb hbx hb2.size hown hb2; obtain ⟨va, vc, hve⟩ := hown.len
    (try simp only [List.length_cons, List.length_nil, Nat.zero_add] at hve)
    subst hve; have hl2 := hc2.lt; have HX := Lib.hid (And.intro hown2 (And.intro hbe hc2)); clear hown hb2 hown2 hbe hb hbx; have hc2c0 := hc2.cell 0 _ rfl; have hc2f0 := hc2.frozen 0; have hc2c1 := hc2.cell 1 _ rfl; have hc2f1 := hc2.frozen 1; have hc2c2 := hc2.cell 2 _ rfl; have hc2f2 := hc2.frozen 2; go_wp2; obtain ⟨hown2, hbe, hce⟩ := HX.out; have hq := ((hce.setI 0 (.slice va tl.length vc)).setI 1 (.int .i64 ta)).setI 2 (.int .i64 te); have hx := hq.cell 0 _ rfl; have hy := hq.cell 1 _ rfl; have hz := hq.cell 2 _ rfl; refine bodyPost_ret (v := .agg #[.slice va tl.length vc, .int .i64 ta, .int .i64 te]) (by simp [results, Tryz.results27, go_sem, hx, hy, hz]) rfl ?_
    exact ⟨_, rfl, hown2, hbe⟩
   | false =>
    rw [hp] at hI
    have HN2 : Hid (∀ j, j < t + 1 -> ([42, 47] : Bs).isPrefixOf (E.drop j) = false) := Lib.hid (fun j hj => by
     by_cases h : j = t
     ·subst h; exact hp
     ·exact HN.out j (by omega))
    clear hp; go_wp2_with fail; refine (hI _).mono ?_; rintro _ _ ⟨rfl, hw1⟩; cases hw1
    go_wp2; go_round
    case rel => exact ⟨t + 1, by go_num, by omega, HN2.out⟩
    case measure => simp [intOf]; omega
  ·obtain rfl : t = ln := by omega
   have hen := HA.out.2 (endN_no E (by rw [HEL.out]; exact HN.out))
   have HEN := Lib.hid hen; clear hen; go_wp2; have hq := Cells.new w #[.slice none 0 0, .int .i64 (k : Nat), .int .i64 2] 32; have hx := hq.cell 0 _ rfl; have hy := hq.cell 1 _ rfl; have hz := hq.cell 2 _ rfl; refine bodyPost_ret (v := .agg #[.slice none 0 0, .int .i64 (k : Nat), .int .i64 2]) (by simp [results, Tryz.results27, go_sem, hx, hy, hz]) rfl ?_
   rw [HEN.out]; exact ⟨_, by simp [lrT], OwnT.nil, (Below.refl _ w).alloc (Nat.le_refl _) _⟩
theorem sgl_at (j : Nat) (h : j < sgls.length) : ([(⟨#[61]⟩ : ByteArray), (⟨#[60]⟩ : ByteArray), (⟨#[62]⟩ : ByteArray), (⟨#[43]⟩ : ByteArray), (⟨#[45]⟩ : ByteArray), (⟨#[42]⟩ : ByteArray), (⟨#[47]⟩ : ByteArray), (⟨#[37]⟩ : ByteArray), (⟨#[33]⟩ : ByteArray), (⟨#[63]⟩ : ByteArray), (⟨#[58]⟩ : ByteArray), (⟨#[44]⟩ : ByteArray), (⟨#[46]⟩ : ByteArray), (⟨#[40]⟩ : ByteArray), (⟨#[41]⟩ : ByteArray), (⟨#[91]⟩ : ByteArray), (⟨#[93]⟩ : ByteArray), (⟨#[123]⟩ : ByteArray), (⟨#[125]⟩ : ByteArray)] : List ByteArray)[j]'(by exact h) = ⟨#[sgls[j]'h]⟩ := by
 have h19 : ∀ i : Fin 19, ([(⟨#[61]⟩ : ByteArray), (⟨#[60]⟩ : ByteArray), (⟨#[62]⟩ : ByteArray), (⟨#[43]⟩ : ByteArray), (⟨#[45]⟩ : ByteArray), (⟨#[42]⟩ : ByteArray), (⟨#[47]⟩ : ByteArray), (⟨#[37]⟩ : ByteArray), (⟨#[33]⟩ : ByteArray), (⟨#[63]⟩ : ByteArray), (⟨#[58]⟩ : ByteArray), (⟨#[44]⟩ : ByteArray), (⟨#[46]⟩ : ByteArray), (⟨#[40]⟩ : ByteArray), (⟨#[41]⟩ : ByteArray), (⟨#[91]⟩ : ByteArray), (⟨#[93]⟩ : ByteArray), (⟨#[123]⟩ : ByteArray), (⟨#[125]⟩ : ByteArray)] : List ByteArray)[i.val]'i.isLt = ⟨#[sgls[i.val]'i.isLt]⟩ := by decide
 exact h19 ⟨j, h⟩
theorem dbl_at (j : Nat) (h : j < dbls.length) : (dbls.map strL)[j]'(by rw [List.length_map]; exact h) = strL (dbls[j]'h) := List.getElem_map strL
theorem any_drop {l : List Bs} {p : Bs -> Bool} {j : Nat} (h : j < l.length) : (l.drop j).any p = (p l[j] || (l.drop (j + 1)).any p) := by
 rw [List.drop_eq_getElem_cons h, List.any_cons]
theorem one_sign (s : ByteArray) (k : Nat) (w : World) (hs : s.size <= 1048576) (hk : k < s.size) (h10 : s[k]'hk ≠ 10) (hl : letB (s[k]'hk) = false) (hg : dg (s[k]'hk) = false) (h34 : s[k]'hk ≠ 34) (h35 : s[k]'hk ≠ 35)
  (h47 : ¬ (s[k]'hk = 47 /\ (s.data.toList.drop (k + 1)).head? = some 47)) (h42 : ¬ (s[k]'hk = 47 /\ (s.data.toList.drop (k + 1)).head? = some 42)) :
  Calls Tryz.prog 27 #[.string s, .int .i64 (k : Nat)] w (OneP w s k (if sgN (s.data.toList.drop k) = 0 then .bad 0 3 else .tok 4 (sgN (s.data.toList.drop k)))) := by
 have hd := drop_at hk; have d10 := u8_nb h10 (m := 10) rfl; have d34 := u8_nb h34 (m := 34) rfl; have d35 := u8_nb h35 (m := 35) rfl; have hLe := Letter_any (s[k]'hk); rw [hl] at hLe
 have hdr : (s[k]'hk).toNat < 48 \/ (48 <= (s[k]'hk).toNat /\ 57 < (s[k]'hk).toNat) := by
  have : ¬ (48 <= (s[k]'hk).toNat /\ (s[k]'hk).toNat <= 57) := by simpa [dg, dig] using hg
  omega
 have hI1 := fun W => is_any s k ⟨#[47, 47]⟩ W (by omega) (by omega) (by decide)
 rw [hd, show (⟨#[47, 47]⟩ : ByteArray).data.toList = [47, 47] from rfl, pfx2, decide_eq_false h47] at hI1; have hI2 := fun W => is_any s k ⟨#[47, 42]⟩ W (by omega) (by omega) (by decide)
 rw [hd, show (⟨#[47, 42]⟩ : ByteArray).data.toList = [47, 42] from rfl, pfx2, decide_eq_false h42] at hI2; have hIs : ∀ (p : ByteArray) W, p.size <= 1000 -> Calls Tryz.prog 46 #[.string s, .int .i64 (k : Nat), .string p] W fun e w' => e = .returned (.bool (p.data.toList.isPrefixOf (s.data.toList.drop k))) /\ W = w' := fun p W hp => is_any s k p W (by omega) (by omega) hp
 obtain ⟨B, hB⟩ : ∃ B, dbls.any (fun d => d.isPrefixOf (s.data.toList.drop k)) = B := ⟨_, rfl⟩; obtain ⟨C, hC⟩ : ∃ C, sgls.contains (s[k]'hk) = C := ⟨_, rfl⟩
 have hsg : sgN (s.data.toList.drop k) = if B = true then 2 else if C = true then 1 else 0 := by
  unfold sgN; rw [hB, hd]; simp only; rw [hC]
 rw [hsg]; have HB := Lib.hid hB; have HC := Lib.hid hC; have HD := Lib.hid hd; clear h10 hl hg h34 h35 h47 h42 hB hC hsg hd; obtain ⟨R, hR⟩ : ∃ R, (if (if B = true then 2 else if C = true then 1 else 0) = 0 then LR.bad 0 3 else LR.tok 4 (if B = true then 2 else if C = true then 1 else 0)) = R := ⟨_, rfl⟩; rw [hR]; have HR := Lib.hid hR; clear hR; have hb : Below w.heap.size w (w.alloc (.cells #[.slice none 0 0, .int .i64 0, .int .i64 0] 32)) := (Below.refl _ w).alloc (Nat.le_refl _) _; have hbx := Cells.new w #[.slice none 0 0, .int .i64 0, .int .i64 0] 32; have HH := Lib.hid (And.intro hb hbx); clear hb hbx; rcases hdr with hdr | hdr
 ·skip
  go_enter Tryz.func27, Tryz.ntmps27; go_wp2_with fail; refine (hLe _).mono ?_; rintro _ _ ⟨rfl, hw1⟩; cases hw1
  go_wp2_with fail; refine (hI1 _).mono ?_; rintro _ _ ⟨rfl, hw1⟩; cases hw1
  go_wp2_with fail; refine (hI2 _).mono ?_; rintro _ _ ⟨rfl, hw1⟩; cases hw1
  clear hLe hI1 hI2; go_wp2_with fail; obtain ⟨hb, hbx⟩ := HH.out; clear HH; have hrow := (OwnOf.lit (f := Value.string) (E := 9) (base := w.heap.size) (w := w.alloc (.cells #[.slice none 0 0, .int .i64 0, .int .i64 0] 32)) (dbls.map strL) (by simp) (by decide)).row
  have hb1 := hb.alloc hb.size (.cells #[.string ⟨#[61, 61]⟩, .string ⟨#[33, 61]⟩, .string ⟨#[60, 61]⟩, .string ⟨#[62, 61]⟩, .string ⟨#[38, 38]⟩, .string ⟨#[124, 124]⟩] 9); have hbx1 := hbx.alloc (.cells #[.string ⟨#[61, 61]⟩, .string ⟨#[33, 61]⟩, .string ⟨#[60, 61]⟩, .string ⟨#[62, 61]⟩, .string ⟨#[38, 38]⟩, .string ⟨#[124, 124]⟩] 9); rw [World.size_alloc] at hrow; change RowOf Value.string ((w.alloc (.cells #[.slice none 0 0, .int .i64 0, .int .i64 0] 32)).alloc (.cells #[.string ⟨#[61, 61]⟩, .string ⟨#[33, 61]⟩, .string ⟨#[60, 61]⟩, .string ⟨#[62, 61]⟩, .string ⟨#[38, 38]⟩, .string ⟨#[124, 124]⟩] 9)) (.slice (some ⟨w.heap.size + 1, 0, none⟩) 6 6) _ at hrow; clear hb hbx; generalize (w.alloc (.cells #[.slice none 0 0, .int .i64 0, .int .i64 0] 32)).alloc (.cells #[.string ⟨#[61, 61]⟩, .string ⟨#[33, 61]⟩, .string ⟨#[60, 61]⟩, .string ⟨#[62, 61]⟩, .string ⟨#[38, 38]⟩, .string ⟨#[124, 124]⟩] 9) = W1 at *; have hb := hb1; have hbx := hbx1; clear hb1 hbx1; have HHX := Lib.hid (And.intro hb hbx); clear hb hbx; go_loop [14, 167] (fun _ i => ∃ j : Nat, i = .int .i64 (j : Int) /\ j <= 6 /\ (dbls.drop j).any (fun d => d.isPrefixOf (s.data.toList.drop k)) = B) (fun _ i => 6 - (intOf i).toNat)
  case atStart => exact ⟨0, rfl, by omega, HB.out⟩
  case round =>
   clear HB; obtain ⟨j, rfl, hj, hI⟩ := hrel
   by_cases hlt : j < 6
   ·have hltD : j < dbls.length := hlt
    obtain ⟨b1, o1, hq1, hbl, hcell⟩ := hrow.at (j := j) (by exact hlt)
    cases hq1
    have hcj : W1.cell? ⟨w.heap.size + 1, 0 + j, none⟩ = some (.string (strL (dbls[j]'hltD))) := (hcell j (by exact hlt)).trans (congrArg (fun x => some (Value.string x)) (dbl_at j hltD))
    rw [any_drop (l := dbls) hltD] at hI
    have hs2 : (strL (dbls[j]'hltD)).size = 2 := by
     rw [size_strL]; have h6 : j = 0 \/ j = 1 \/ j = 2 \/ j = 3 \/ j = 4 \/ j = 5 := by omega
     rcases h6 with rfl | rfl | rfl | rfl | rfl | rfl <;> rfl
    have hJ := fun W => hIs (strL (dbls[j]'hltD)) W (by omega)
    rw [strL_list] at hJ; have HS2 := Lib.hid hs2; clear hcell hs2
    cases hp : (dbls[j]'hltD).isPrefixOf (s.data.toList.drop k) with
    | true =>
     rw [hp] at hJ hI; have hBt : B = true := by rw [<- hI]; rfl
     have h2 : k + 2 <= s.size := by
      have := (List.isPrefixOf_iff_prefix.1 hp).length_le; rw [List.length_drop, <- size_list, <- size_strL, HS2.out] at this; omega
     have hRt : R = .tok 4 2 := by rw [<- HR.out, hBt]; rfl
     have HRT := Lib.hid hRt; clear hp hI hRt hBt HS2; generalize strL (dbls[j]'hltD) = dj at *; simp only [Nat.zero_add] at hcj; go_wp2_with fail; refine (hJ _).mono ?_; rintro _ _ ⟨rfl, hw1⟩; cases hw1
     go_wp2_with fail; obtain ⟨hb, hbx⟩ := HHX.out; have hT := token_any s k 2 4 W1 (by omega) h2
     refine (hT).mono ?_; rintro _ w2 ⟨v, rfl, hown, hb2⟩; obtain ⟨hc2, hown2, hbe, -⟩ := tell_box (a := 0) (e := 0) hb hbx hb2.size hown hb2; obtain ⟨va, vc, hve⟩ := hown.len
     (try simp only [List.length_cons, List.length_nil, Nat.zero_add] at hve)
     subst hve; have hl2 := hc2.lt; have HX := Lib.hid (And.intro hown2 (And.intro hbe hc2)); clear hown hb2 hown2 hbe hb hbx; have hc2c0 := hc2.cell 0 _ rfl; have hc2f0 := hc2.frozen 0; have hc2c1 := hc2.cell 1 _ rfl; have hc2f1 := hc2.frozen 1; have hc2c2 := hc2.cell 2 _ rfl; have hc2f2 := hc2.frozen 2; go_wp2; obtain ⟨hown2, hbe, hce⟩ := HX.out; have hq := ((hce.setI 0 (.slice va 1 vc)).setI 1 (.int .i64 0)).setI 2 (.int .i64 0); have hx := hq.cell 0 _ rfl; have hy := hq.cell 1 _ rfl; have hz := hq.cell 2 _ rfl; refine bodyPost_ret (v := .agg #[.slice va 1 vc, .int .i64 0, .int .i64 0]) (by simp [results, Tryz.results27, go_sem, hx, hy, hz]) rfl ?_
     rw [HRT.out]; exact ⟨_, rfl, hown2, hbe⟩
    | false =>
     rw [hp, Bool.false_or] at hI; rw [hp] at hJ; have HI := Lib.hid hI; clear hp hI HS2; generalize strL (dbls[j]'hltD) = dj at *; simp only [Nat.zero_add] at hcj; go_wp2_with fail; refine (hJ _).mono ?_; rintro _ _ ⟨rfl, hw1⟩; cases hw1
     go_wp2; go_round
     case rel => exact ⟨j + 1, by go_num, by omega, HI.out⟩
     case measure => simp [intOf]; omega
   ·obtain rfl : j = 6 := by omega
    have hBf : Hid (B = false) := Lib.hid hI.symm; clear hI hrow; go_wp2_with fail; obtain ⟨hb, hbx⟩ := HHX.out; have hrow := (OwnOf.lit (f := Value.string) (E := 9) (base := w.heap.size) (w := W1) [(⟨#[61]⟩ : ByteArray), (⟨#[60]⟩ : ByteArray), (⟨#[62]⟩ : ByteArray), (⟨#[43]⟩ : ByteArray), (⟨#[45]⟩ : ByteArray), (⟨#[42]⟩ : ByteArray), (⟨#[47]⟩ : ByteArray), (⟨#[37]⟩ : ByteArray), (⟨#[33]⟩ : ByteArray), (⟨#[63]⟩ : ByteArray), (⟨#[58]⟩ : ByteArray), (⟨#[44]⟩ : ByteArray), (⟨#[46]⟩ : ByteArray), (⟨#[40]⟩ : ByteArray), (⟨#[41]⟩ : ByteArray), (⟨#[91]⟩ : ByteArray), (⟨#[93]⟩ : ByteArray), (⟨#[123]⟩ : ByteArray), (⟨#[125]⟩ : ByteArray)] hb.size (by decide)).row
    have hb1 := hb.alloc hb.size (.cells #[.string ⟨#[61]⟩, .string ⟨#[60]⟩, .string ⟨#[62]⟩, .string ⟨#[43]⟩, .string ⟨#[45]⟩, .string ⟨#[42]⟩, .string ⟨#[47]⟩, .string ⟨#[37]⟩, .string ⟨#[33]⟩, .string ⟨#[63]⟩, .string ⟨#[58]⟩, .string ⟨#[44]⟩, .string ⟨#[46]⟩, .string ⟨#[40]⟩, .string ⟨#[41]⟩, .string ⟨#[91]⟩, .string ⟨#[93]⟩, .string ⟨#[123]⟩, .string ⟨#[125]⟩] 9); have hbx1 := hbx.alloc (.cells #[.string ⟨#[61]⟩, .string ⟨#[60]⟩, .string ⟨#[62]⟩, .string ⟨#[43]⟩, .string ⟨#[45]⟩, .string ⟨#[42]⟩, .string ⟨#[47]⟩, .string ⟨#[37]⟩, .string ⟨#[33]⟩, .string ⟨#[63]⟩, .string ⟨#[58]⟩, .string ⟨#[44]⟩, .string ⟨#[46]⟩, .string ⟨#[40]⟩, .string ⟨#[41]⟩, .string ⟨#[91]⟩, .string ⟨#[93]⟩, .string ⟨#[123]⟩, .string ⟨#[125]⟩] 9); change RowOf Value.string (W1.alloc (.cells #[.string ⟨#[61]⟩, .string ⟨#[60]⟩, .string ⟨#[62]⟩, .string ⟨#[43]⟩, .string ⟨#[45]⟩, .string ⟨#[42]⟩, .string ⟨#[47]⟩, .string ⟨#[37]⟩, .string ⟨#[33]⟩, .string ⟨#[63]⟩, .string ⟨#[58]⟩, .string ⟨#[44]⟩, .string ⟨#[46]⟩, .string ⟨#[40]⟩, .string ⟨#[41]⟩, .string ⟨#[91]⟩, .string ⟨#[93]⟩, .string ⟨#[123]⟩, .string ⟨#[125]⟩] 9)) (.slice (some ⟨W1.heap.size, 0, none⟩) 19 19) _ at hrow; clear hb hbx HHX; generalize hW2 : W1.alloc (.cells #[.string ⟨#[61]⟩, .string ⟨#[60]⟩, .string ⟨#[62]⟩, .string ⟨#[43]⟩, .string ⟨#[45]⟩, .string ⟨#[42]⟩, .string ⟨#[47]⟩, .string ⟨#[37]⟩, .string ⟨#[33]⟩, .string ⟨#[63]⟩, .string ⟨#[58]⟩, .string ⟨#[44]⟩, .string ⟨#[46]⟩, .string ⟨#[40]⟩, .string ⟨#[41]⟩, .string ⟨#[91]⟩, .string ⟨#[93]⟩, .string ⟨#[123]⟩, .string ⟨#[125]⟩] 9) = W2 at *
    generalize W1.heap.size = g2 at *; clear hW2; have hb := hb1; have hbx := hbx1; clear hb1 hbx1; have HHX := Lib.hid (And.intro hb hbx); clear hb hbx; go_loop [16, 181] (fun _ i => ∃ j : Nat, i = .int .i64 (j : Int) /\ j <= 19 /\ (sgls.drop j).contains (s[k]'hk) = C) (fun _ i => 19 - (intOf i).toNat)
    case atStart => exact ⟨0, rfl, by omega, HC.out⟩
    case round =>
     clear HC; obtain ⟨j, rfl, hj, hI⟩ := hrel
     by_cases hlt : j < 19
     ·have hltS : j < sgls.length := hlt
      obtain ⟨b1, o1, hq1, hbl, hcell⟩ := hrow.at (j := j) (by exact hlt)
      cases hq1
      have hcj : W2.cell? ⟨g2, 0 + j, none⟩ = some (.string ⟨#[sgls[j]'hltS]⟩) := (hcell j (by exact hlt)).trans (congrArg (fun x => some (Value.string x)) (sgl_at j hltS))
      rw [List.drop_eq_getElem_cons hltS, List.contains_cons] at hI; have hJ := fun W => hIs ⟨#[sgls[j]'hltS]⟩ W (by simp [ByteArray.size])
      have hJ2 : (⟨#[sgls[j]'hltS]⟩ : ByteArray).data.toList.isPrefixOf (s.data.toList.drop k) = (s[k]'hk == sgls[j]'hltS) := by
       rw [HD.out]; show (sgls[j]'hltS == s[k]'hk && ([] : Bs).isPrefixOf _) = _; rw [List.isPrefixOf_nil_left, Bool.and_true, Bool.beq_comm]
      rw [hJ2] at hJ; clear hJ2 hcell
      cases hp : (s[k]'hk == sgls[j]'hltS) with
      | true =>
       rw [hp] at hJ hI; have hCt : C = true := by rw [<- hI]; rfl
       have hRt : R = .tok 4 1 := by rw [<- HR.out, hBf.out, hCt]; rfl
       have HRT := Lib.hid hRt; have hkp : k + 1 <= s.size := hk; clear hp hI hRt hCt; generalize (⟨#[sgls[j]'hltS]⟩ : ByteArray) = dj at *; simp only [Nat.zero_add] at hcj; go_wp2_with fail; refine (hJ _).mono ?_; rintro _ _ ⟨rfl, hw1⟩; cases hw1
       go_wp2_with fail; obtain ⟨hb, hbx⟩ := HHX.out; have hT := token_any s k 1 4 W2 (by omega) (by omega)
       refine (hT).mono ?_; rintro _ w2 ⟨v, rfl, hown, hb2⟩; obtain ⟨hc2, hown2, hbe, -⟩ := tell_box (a := 0) (e := 0) hb hbx hb2.size hown hb2; obtain ⟨va, vc, hve⟩ := hown.len
       (try simp only [List.length_cons, List.length_nil, Nat.zero_add] at hve)
       subst hve; have hl2 := hc2.lt; have HX := Lib.hid (And.intro hown2 (And.intro hbe hc2)); clear hown hb2 hown2 hbe hb hbx; have hc2c0 := hc2.cell 0 _ rfl; have hc2f0 := hc2.frozen 0; have hc2c1 := hc2.cell 1 _ rfl; have hc2f1 := hc2.frozen 1; have hc2c2 := hc2.cell 2 _ rfl; have hc2f2 := hc2.frozen 2; go_wp2; obtain ⟨hown2, hbe, hce⟩ := HX.out; have hq := ((hce.setI 0 (.slice va 1 vc)).setI 1 (.int .i64 0)).setI 2 (.int .i64 0); have hx := hq.cell 0 _ rfl; have hy := hq.cell 1 _ rfl; have hz := hq.cell 2 _ rfl; refine bodyPost_ret (v := .agg #[.slice va 1 vc, .int .i64 0, .int .i64 0]) (by simp [results, Tryz.results27, go_sem, hx, hy, hz]) rfl ?_
       rw [HRT.out]; exact ⟨_, rfl, hown2, hbe⟩
      | false =>
       rw [hp, Bool.false_or] at hI; rw [hp] at hJ; have HI := Lib.hid hI; clear hp hI; generalize (⟨#[sgls[j]'hltS]⟩ : ByteArray) = dj at *; simp only [Nat.zero_add] at hcj; go_wp2_with fail; refine (hJ _).mono ?_; rintro _ _ ⟨rfl, hw1⟩; cases hw1
       go_wp2; go_round
       case rel => exact ⟨j + 1, by go_num, by omega, HI.out⟩
       case measure => simp [intOf]; omega
     ·obtain rfl : j = 19 := by omega
      have hRt : R = .bad 0 3 := by rw [<- HR.out, hBf.out, <- hI]; rfl
      have HRT := Lib.hid hRt; clear hI hrow hRt; obtain ⟨hb, hbx⟩ := HHX.out; have HB := Lib.hid hb; have HC := Lib.hid hbx; have hlx := hbx.lt; clear hb HHX; have hbxc0 := hbx.cell 0 _ rfl; have hbxf0 := hbx.frozen 0; have hbxc1 := hbx.cell 1 _ rfl; have hbxf1 := hbx.frozen 1; have hbxc2 := hbx.cell 2 _ rfl; have hbxf2 := hbx.frozen 2; clear hbx; go_wp2; rw [HRT.out]; have hq := (((HC.out).setI 0 (.slice none 0 0)).setI 1 (.int .i64 (k : Nat))).setI 2 (.int .i64 3); have hx := hq.cell 0 _ rfl; have hy := hq.cell 1 _ rfl; have hz := hq.cell 2 _ rfl; refine bodyPost_ret (v := .agg #[.slice none 0 0, .int .i64 (k : Nat), .int .i64 3]) (by simp [results, Tryz.results27, go_sem, hx, hy, hz]) rfl ?_
      exact ⟨_, by simp [lrT], OwnT.nil, setAll_below _ _ (Nat.le_refl _) [.slice none 0 0, .int .i64 (k : Nat), .int .i64 3] 0 _ _ HB.out⟩
 ·skip
  go_enter Tryz.func27, Tryz.ntmps27; go_wp2_with fail; refine (hLe _).mono ?_; rintro _ _ ⟨rfl, hw1⟩; cases hw1
  go_wp2_with fail; refine (hI1 _).mono ?_; rintro _ _ ⟨rfl, hw1⟩; cases hw1
  go_wp2_with fail; refine (hI2 _).mono ?_; rintro _ _ ⟨rfl, hw1⟩; cases hw1
  clear hLe hI1 hI2; go_wp2_with fail; obtain ⟨hb, hbx⟩ := HH.out; clear HH; have hrow := (OwnOf.lit (f := Value.string) (E := 9) (base := w.heap.size) (w := w.alloc (.cells #[.slice none 0 0, .int .i64 0, .int .i64 0] 32)) (dbls.map strL) (by simp) (by decide)).row
  have hb1 := hb.alloc hb.size (.cells #[.string ⟨#[61, 61]⟩, .string ⟨#[33, 61]⟩, .string ⟨#[60, 61]⟩, .string ⟨#[62, 61]⟩, .string ⟨#[38, 38]⟩, .string ⟨#[124, 124]⟩] 9); have hbx1 := hbx.alloc (.cells #[.string ⟨#[61, 61]⟩, .string ⟨#[33, 61]⟩, .string ⟨#[60, 61]⟩, .string ⟨#[62, 61]⟩, .string ⟨#[38, 38]⟩, .string ⟨#[124, 124]⟩] 9); rw [World.size_alloc] at hrow; change RowOf Value.string ((w.alloc (.cells #[.slice none 0 0, .int .i64 0, .int .i64 0] 32)).alloc (.cells #[.string ⟨#[61, 61]⟩, .string ⟨#[33, 61]⟩, .string ⟨#[60, 61]⟩, .string ⟨#[62, 61]⟩, .string ⟨#[38, 38]⟩, .string ⟨#[124, 124]⟩] 9)) (.slice (some ⟨w.heap.size + 1, 0, none⟩) 6 6) _ at hrow; clear hb hbx; generalize (w.alloc (.cells #[.slice none 0 0, .int .i64 0, .int .i64 0] 32)).alloc (.cells #[.string ⟨#[61, 61]⟩, .string ⟨#[33, 61]⟩, .string ⟨#[60, 61]⟩, .string ⟨#[62, 61]⟩, .string ⟨#[38, 38]⟩, .string ⟨#[124, 124]⟩] 9) = W1 at *; have hb := hb1; have hbx := hbx1; clear hb1 hbx1; have HHX := Lib.hid (And.intro hb hbx); clear hb hbx; go_loop [14, 167] (fun _ i => ∃ j : Nat, i = .int .i64 (j : Int) /\ j <= 6 /\ (dbls.drop j).any (fun d => d.isPrefixOf (s.data.toList.drop k)) = B) (fun _ i => 6 - (intOf i).toNat)
  case atStart => exact ⟨0, rfl, by omega, HB.out⟩
  case round =>
   clear HB; obtain ⟨j, rfl, hj, hI⟩ := hrel
   by_cases hlt : j < 6
   ·have hltD : j < dbls.length := hlt
    obtain ⟨b1, o1, hq1, hbl, hcell⟩ := hrow.at (j := j) (by exact hlt)
    cases hq1
    have hcj : W1.cell? ⟨w.heap.size + 1, 0 + j, none⟩ = some (.string (strL (dbls[j]'hltD))) := (hcell j (by exact hlt)).trans (congrArg (fun x => some (Value.string x)) (dbl_at j hltD))
    rw [any_drop (l := dbls) hltD] at hI
    have hs2 : (strL (dbls[j]'hltD)).size = 2 := by
     rw [size_strL]; have h6 : j = 0 \/ j = 1 \/ j = 2 \/ j = 3 \/ j = 4 \/ j = 5 := by omega
     rcases h6 with rfl | rfl | rfl | rfl | rfl | rfl <;> rfl
    have hJ := fun W => hIs (strL (dbls[j]'hltD)) W (by omega)
    rw [strL_list] at hJ; have HS2 := Lib.hid hs2; clear hcell hs2
    cases hp : (dbls[j]'hltD).isPrefixOf (s.data.toList.drop k) with
    | true =>
     rw [hp] at hJ hI; have hBt : B = true := by rw [<- hI]; rfl
     have h2 : k + 2 <= s.size := by
      have := (List.isPrefixOf_iff_prefix.1 hp).length_le; rw [List.length_drop, <- size_list, <- size_strL, HS2.out] at this; omega
     have hRt : R = .tok 4 2 := by rw [<- HR.out, hBt]; rfl
     have HRT := Lib.hid hRt; clear hp hI hRt hBt HS2; generalize strL (dbls[j]'hltD) = dj at *; simp only [Nat.zero_add] at hcj; go_wp2_with fail; refine (hJ _).mono ?_; rintro _ _ ⟨rfl, hw1⟩; cases hw1
     go_wp2_with fail; obtain ⟨hb, hbx⟩ := HHX.out; have hT := token_any s k 2 4 W1 (by omega) h2
     refine (hT).mono ?_; rintro _ w2 ⟨v, rfl, hown, hb2⟩; obtain ⟨hc2, hown2, hbe, -⟩ := tell_box (a := 0) (e := 0) hb hbx hb2.size hown hb2; obtain ⟨va, vc, hve⟩ := hown.len
     (try simp only [List.length_cons, List.length_nil, Nat.zero_add] at hve)
     subst hve; have hl2 := hc2.lt; have HX := Lib.hid (And.intro hown2 (And.intro hbe hc2)); clear hown hb2 hown2 hbe hb hbx; have hc2c0 := hc2.cell 0 _ rfl; have hc2f0 := hc2.frozen 0; have hc2c1 := hc2.cell 1 _ rfl; have hc2f1 := hc2.frozen 1; have hc2c2 := hc2.cell 2 _ rfl; have hc2f2 := hc2.frozen 2; go_wp2; obtain ⟨hown2, hbe, hce⟩ := HX.out; have hq := ((hce.setI 0 (.slice va 1 vc)).setI 1 (.int .i64 0)).setI 2 (.int .i64 0); have hx := hq.cell 0 _ rfl; have hy := hq.cell 1 _ rfl; have hz := hq.cell 2 _ rfl; refine bodyPost_ret (v := .agg #[.slice va 1 vc, .int .i64 0, .int .i64 0]) (by simp [results, Tryz.results27, go_sem, hx, hy, hz]) rfl ?_
     rw [HRT.out]; exact ⟨_, rfl, hown2, hbe⟩
    | false =>
     rw [hp, Bool.false_or] at hI; rw [hp] at hJ; have HI := Lib.hid hI; clear hp hI HS2; generalize strL (dbls[j]'hltD) = dj at *; simp only [Nat.zero_add] at hcj; go_wp2_with fail; refine (hJ _).mono ?_; rintro _ _ ⟨rfl, hw1⟩; cases hw1
     go_wp2; go_round
     case rel => exact ⟨j + 1, by go_num, by omega, HI.out⟩
     case measure => simp [intOf]; omega
   ·obtain rfl : j = 6 := by omega
    have hBf : Hid (B = false) := Lib.hid hI.symm; clear hI hrow; go_wp2_with fail; obtain ⟨hb, hbx⟩ := HHX.out; have hrow := (OwnOf.lit (f := Value.string) (E := 9) (base := w.heap.size) (w := W1) [(⟨#[61]⟩ : ByteArray), (⟨#[60]⟩ : ByteArray), (⟨#[62]⟩ : ByteArray), (⟨#[43]⟩ : ByteArray), (⟨#[45]⟩ : ByteArray), (⟨#[42]⟩ : ByteArray), (⟨#[47]⟩ : ByteArray), (⟨#[37]⟩ : ByteArray), (⟨#[33]⟩ : ByteArray), (⟨#[63]⟩ : ByteArray), (⟨#[58]⟩ : ByteArray), (⟨#[44]⟩ : ByteArray), (⟨#[46]⟩ : ByteArray), (⟨#[40]⟩ : ByteArray), (⟨#[41]⟩ : ByteArray), (⟨#[91]⟩ : ByteArray), (⟨#[93]⟩ : ByteArray), (⟨#[123]⟩ : ByteArray), (⟨#[125]⟩ : ByteArray)] hb.size (by decide)).row
    have hb1 := hb.alloc hb.size (.cells #[.string ⟨#[61]⟩, .string ⟨#[60]⟩, .string ⟨#[62]⟩, .string ⟨#[43]⟩, .string ⟨#[45]⟩, .string ⟨#[42]⟩, .string ⟨#[47]⟩, .string ⟨#[37]⟩, .string ⟨#[33]⟩, .string ⟨#[63]⟩, .string ⟨#[58]⟩, .string ⟨#[44]⟩, .string ⟨#[46]⟩, .string ⟨#[40]⟩, .string ⟨#[41]⟩, .string ⟨#[91]⟩, .string ⟨#[93]⟩, .string ⟨#[123]⟩, .string ⟨#[125]⟩] 9); have hbx1 := hbx.alloc (.cells #[.string ⟨#[61]⟩, .string ⟨#[60]⟩, .string ⟨#[62]⟩, .string ⟨#[43]⟩, .string ⟨#[45]⟩, .string ⟨#[42]⟩, .string ⟨#[47]⟩, .string ⟨#[37]⟩, .string ⟨#[33]⟩, .string ⟨#[63]⟩, .string ⟨#[58]⟩, .string ⟨#[44]⟩, .string ⟨#[46]⟩, .string ⟨#[40]⟩, .string ⟨#[41]⟩, .string ⟨#[91]⟩, .string ⟨#[93]⟩, .string ⟨#[123]⟩, .string ⟨#[125]⟩] 9); change RowOf Value.string (W1.alloc (.cells #[.string ⟨#[61]⟩, .string ⟨#[60]⟩, .string ⟨#[62]⟩, .string ⟨#[43]⟩, .string ⟨#[45]⟩, .string ⟨#[42]⟩, .string ⟨#[47]⟩, .string ⟨#[37]⟩, .string ⟨#[33]⟩, .string ⟨#[63]⟩, .string ⟨#[58]⟩, .string ⟨#[44]⟩, .string ⟨#[46]⟩, .string ⟨#[40]⟩, .string ⟨#[41]⟩, .string ⟨#[91]⟩, .string ⟨#[93]⟩, .string ⟨#[123]⟩, .string ⟨#[125]⟩] 9)) (.slice (some ⟨W1.heap.size, 0, none⟩) 19 19) _ at hrow; clear hb hbx HHX; generalize hW2 : W1.alloc (.cells #[.string ⟨#[61]⟩, .string ⟨#[60]⟩, .string ⟨#[62]⟩, .string ⟨#[43]⟩, .string ⟨#[45]⟩, .string ⟨#[42]⟩, .string ⟨#[47]⟩, .string ⟨#[37]⟩, .string ⟨#[33]⟩, .string ⟨#[63]⟩, .string ⟨#[58]⟩, .string ⟨#[44]⟩, .string ⟨#[46]⟩, .string ⟨#[40]⟩, .string ⟨#[41]⟩, .string ⟨#[91]⟩, .string ⟨#[93]⟩, .string ⟨#[123]⟩, .string ⟨#[125]⟩] 9) = W2 at *
    generalize W1.heap.size = g2 at *; clear hW2; have hb := hb1; have hbx := hbx1; clear hb1 hbx1; have HHX := Lib.hid (And.intro hb hbx); clear hb hbx; go_loop [16, 181] (fun _ i => ∃ j : Nat, i = .int .i64 (j : Int) /\ j <= 19 /\ (sgls.drop j).contains (s[k]'hk) = C) (fun _ i => 19 - (intOf i).toNat)
    case atStart => exact ⟨0, rfl, by omega, HC.out⟩
    case round =>
     clear HC; obtain ⟨j, rfl, hj, hI⟩ := hrel
     by_cases hlt : j < 19
     ·have hltS : j < sgls.length := hlt
      obtain ⟨b1, o1, hq1, hbl, hcell⟩ := hrow.at (j := j) (by exact hlt)
      cases hq1
      have hcj : W2.cell? ⟨g2, 0 + j, none⟩ = some (.string ⟨#[sgls[j]'hltS]⟩) := (hcell j (by exact hlt)).trans (congrArg (fun x => some (Value.string x)) (sgl_at j hltS))
      rw [List.drop_eq_getElem_cons hltS, List.contains_cons] at hI; have hJ := fun W => hIs ⟨#[sgls[j]'hltS]⟩ W (by simp [ByteArray.size])
      have hJ2 : (⟨#[sgls[j]'hltS]⟩ : ByteArray).data.toList.isPrefixOf (s.data.toList.drop k) = (s[k]'hk == sgls[j]'hltS) := by
       rw [HD.out]; show (sgls[j]'hltS == s[k]'hk && ([] : Bs).isPrefixOf _) = _; rw [List.isPrefixOf_nil_left, Bool.and_true, Bool.beq_comm]
      rw [hJ2] at hJ; clear hJ2 hcell
      cases hp : (s[k]'hk == sgls[j]'hltS) with
      | true =>
       rw [hp] at hJ hI; have hCt : C = true := by rw [<- hI]; rfl
       have hRt : R = .tok 4 1 := by rw [<- HR.out, hBf.out, hCt]; rfl
       have HRT := Lib.hid hRt; have hkp : k + 1 <= s.size := hk; clear hp hI hRt hCt; generalize (⟨#[sgls[j]'hltS]⟩ : ByteArray) = dj at *; simp only [Nat.zero_add] at hcj; go_wp2_with fail; refine (hJ _).mono ?_; rintro _ _ ⟨rfl, hw1⟩; cases hw1
       go_wp2_with fail; obtain ⟨hb, hbx⟩ := HHX.out; have hT := token_any s k 1 4 W2 (by omega) (by omega)
       refine (hT).mono ?_; rintro _ w2 ⟨v, rfl, hown, hb2⟩; obtain ⟨hc2, hown2, hbe, -⟩ := tell_box (a := 0) (e := 0) hb hbx hb2.size hown hb2; obtain ⟨va, vc, hve⟩ := hown.len
       (try simp only [List.length_cons, List.length_nil, Nat.zero_add] at hve)
       subst hve; have hl2 := hc2.lt; have HX := Lib.hid (And.intro hown2 (And.intro hbe hc2)); clear hown hb2 hown2 hbe hb hbx; have hc2c0 := hc2.cell 0 _ rfl; have hc2f0 := hc2.frozen 0; have hc2c1 := hc2.cell 1 _ rfl; have hc2f1 := hc2.frozen 1; have hc2c2 := hc2.cell 2 _ rfl; have hc2f2 := hc2.frozen 2; go_wp2; obtain ⟨hown2, hbe, hce⟩ := HX.out; have hq := ((hce.setI 0 (.slice va 1 vc)).setI 1 (.int .i64 0)).setI 2 (.int .i64 0); have hx := hq.cell 0 _ rfl; have hy := hq.cell 1 _ rfl; have hz := hq.cell 2 _ rfl; refine bodyPost_ret (v := .agg #[.slice va 1 vc, .int .i64 0, .int .i64 0]) (by simp [results, Tryz.results27, go_sem, hx, hy, hz]) rfl ?_
       rw [HRT.out]; exact ⟨_, rfl, hown2, hbe⟩
      | false =>
       rw [hp, Bool.false_or] at hI; rw [hp] at hJ; have HI := Lib.hid hI; clear hp hI; generalize (⟨#[sgls[j]'hltS]⟩ : ByteArray) = dj at *; simp only [Nat.zero_add] at hcj; go_wp2_with fail; refine (hJ _).mono ?_; rintro _ _ ⟨rfl, hw1⟩; cases hw1
       go_wp2; go_round
       case rel => exact ⟨j + 1, by go_num, by omega, HI.out⟩
       case measure => simp [intOf]; omega
     ·obtain rfl : j = 19 := by omega
      have hRt : R = .bad 0 3 := by rw [<- HR.out, hBf.out, <- hI]; rfl
      have HRT := Lib.hid hRt; clear hI hrow hRt; obtain ⟨hb, hbx⟩ := HHX.out; have HB := Lib.hid hb; have HC := Lib.hid hbx; have hlx := hbx.lt; clear hb HHX; have hbxc0 := hbx.cell 0 _ rfl; have hbxf0 := hbx.frozen 0; have hbxc1 := hbx.cell 1 _ rfl; have hbxf1 := hbx.frozen 1; have hbxc2 := hbx.cell 2 _ rfl; have hbxf2 := hbx.frozen 2; clear hbx; go_wp2; rw [HRT.out]; have hq := (((HC.out).setI 0 (.slice none 0 0)).setI 1 (.int .i64 (k : Nat))).setI 2 (.int .i64 3); have hx := hq.cell 0 _ rfl; have hy := hq.cell 1 _ rfl; have hz := hq.cell 2 _ rfl; refine bodyPost_ret (v := .agg #[.slice none 0 0, .int .i64 (k : Nat), .int .i64 3]) (by simp [results, Tryz.results27, go_sem, hx, hy, hz]) rfl ?_
      exact ⟨_, by simp [lrT], OwnT.nil, setAll_below _ _ (Nat.le_refl _) [.slice none 0 0, .int .i64 (k : Nat), .int .i64 3] 0 _ _ HB.out⟩
end Go.Proofs.YthbhknfhmkhfgaaGreatDoor
