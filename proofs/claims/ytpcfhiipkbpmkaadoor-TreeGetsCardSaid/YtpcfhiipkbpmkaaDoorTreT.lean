/- The walk of TreeGets (layer 8). -/
import Derived.Test.YtpcfhiipkbpmkaaDoorTreP
import Derived.Test.YtpcfhiipkbpmkaaDoorTreH
import Derived.Test.YtpcfhiipkbpmkaaDoorTreS
import Derived.Test.YtpcfhiipkbpmkaaDoorTreD
namespace Go.Proofs.YtpcfhiipkbpmkaaDoor
open Go.RowKit Go.Tab

theorem getPath_append : ∀ (a b : List ByteArray) (t : Tree), getPath (a ++ b) t = (getPath a t).bind (getPath b)
  | [], b, t => rfl
  | k :: a, b, t => by
    show (getT k t).bind (getPath (a ++ b)) = ((getT k t).bind (getPath a)).bind (getPath b)
    cases getT k t with
    | none => rfl
    | some u => exact getPath_append a b u
theorem getPath_snoc {l : List ByteArray} {k : Nat} (h : k < l.length) (t : Tree) : getPath (l.take (k + 1)) t = (getPath (l.take k) t).bind (getT l[k]) := by
  rw [take_snoc' l k h, getPath_append]
  cases getPath (l.take k) t with
  | none => rfl
  | some u =>
    show (getT l[k] u).bind (getPath []) = getT l[k] u
    cases getT l[k] u <;> rfl
theorem getPath_none {l : List ByteArray} {k : Nat} {t : Tree} (h : getPath (l.take k) t = none) : getPath l t = none := by
  rw [← List.take_append_drop k l, getPath_append, h]; rfl
theorem getPath_bulk : ∀ {l : List ByteArray} {t u : Tree}, getPath l t = some u → u.bulk ≤ t.bulk
  | [], t, u, h => by simp [getPath] at h; rw [h]; exact Nat.le_refl _
  | k :: r, t, u, h => by
    rw [getPath] at h
    cases hg : getT k t with
    | none => rw [hg] at h; cases h
    | some v => rw [hg] at h; exact Nat.le_trans (getPath_bulk h) (getT_bulk hg)
theorem ValIn.keep {P : Nat → Prop} {w w' : World} {t : Tree} {cs : List Value} (h : ValIn P w t cs) (hb : Below w.heap.size w w') : ValIn P w' t cs := ValIn.below hb t cs h
theorem rSame_yes (t : Tree) (w : World) (cs ds : List Value) (hv : ValAt w t cs) (hv2 : ValAt w t ds) : Calls Tryd.prog 18 #[valV cs, valV ds] w fun e w' => e = .returned (.bool true) ∧ Below w.heap.size w w' :=
  SameP.fix (b := true) (yes_iff rfl) (rSame_any t t w cs ds hv hv2)



set_option maxHeartbeats 8000000 in
set_option maxRecDepth 100000 in
theorem TreeGets_walk (c0 : List Value) (t0 : Tree) (a1 : Value) (l1 : List ByteArray) (w : World) (w0 : ValAt w t0 c0) (w1 : RowOf Value.string w a1 l1) (hT : Tab w) (hf : Fits t0) :
    Calls Tryd.prog 4 #[valV c0, a1] w fun e w' => e = .returned (.bool true) ∧ Below w.heap.size w w' := by
  have hll := len_ks l1
  obtain ⟨pa, pc, rfl, hpl, hpm, -⟩ := w1.len
  unfold maxLen at hpm
  have HV0 := Lib.hid w0
  have HW1 := Lib.hid w1
  obtain ⟨kind, is, neg, digits, exp, str, ka, kn, kc, sa, sn, sc, rfl⟩ := w0.shape
  have hb0 : Below w.heap.size w (w.alloc (.cells #[.int .i64 kind, .bool is, .bool neg, .string digits, .int .i64 exp, .string str, .slice ka kn kc, .slice sa sn sc] 27)) := (Below.refl _ w).alloc (Nat.le_refl _) _
  have hwk := twakes_any _ (hT.below hb0 hT.pos)
  clear w0 w1 hb0
  simp only [valV]
  go_enter Tryd.func4, Tryd.ntmps4
  go_wp2_with fail
  refine hwk.mono ?_
  rintro e w3 ⟨rfl, hb3⟩
  obtain ⟨hc0, hz3, hbw⟩ := one_new hb3
  clear hb3 hwk
  have hG := Great_any t0 hf w3 _ (ValAt.below hbw _ _ HV0.out)
  have hc0' := hc0
  simp only [valV] at hG
  have hc0c0 := hc0.cell 0 _ rfl
  have hc0f0 := hc0.frozen 0
  have hc0c1 := hc0.cell 1 _ rfl
  have hc0f1 := hc0.frozen 1
  have hc0c2 := hc0.cell 2 _ rfl
  have hc0f2 := hc0.frozen 2
  have hc0c3 := hc0.cell 3 _ rfl
  have hc0f3 := hc0.frozen 3
  have hc0c4 := hc0.cell 4 _ rfl
  have hc0f4 := hc0.frozen 4
  have hc0c5 := hc0.cell 5 _ rfl
  have hc0f5 := hc0.frozen 5
  have hc0c6 := hc0.cell 6 _ rfl
  have hc0f6 := hc0.frozen 6
  have hc0c7 := hc0.cell 7 _ rfl
  have hc0f7 := hc0.frozen 7
  go_wp2_with fail
  refine hG.mono ?_
  clear hG hc0c0 hc0c1 hc0c2 hc0c3 hc0c4 hc0c5 hc0c6 hc0c7 hc0f0 hc0f1 hc0f2 hc0f3 hc0f4 hc0f5 hc0f6 hc0f7 hc0
  rintro e w4 ⟨⟨b, rfl, hgb⟩, hb4⟩
  have HGB := Lib.hid hgb
  clear hgb hf
  have hc0 := hc0'.below hb4 hz3
  have hbl4 := hbw.trans (hb4.mono hbw.size)
  have hz4 := hc0.lt
  clear hc0' hb4 hbw
  cases b
  · have hkt : t0.bulk ≤ 1048576 := Nat.le_trans (HGB.out rfl) (by decide)
    clear HGB
    by_cases hlen : 60 < l1.length
    · skip
      have hc0c0 := hc0.cell 0 _ rfl
      have hc0f0 := hc0.frozen 0
      have hc0c1 := hc0.cell 1 _ rfl
      have hc0f1 := hc0.frozen 1
      have hc0c2 := hc0.cell 2 _ rfl
      have hc0f2 := hc0.frozen 2
      have hc0c3 := hc0.cell 3 _ rfl
      have hc0f3 := hc0.frozen 3
      have hc0c4 := hc0.cell 4 _ rfl
      have hc0f4 := hc0.frozen 4
      have hc0c5 := hc0.cell 5 _ rfl
      have hc0f5 := hc0.frozen 5
      have hc0c6 := hc0.cell 6 _ rfl
      have hc0f6 := hc0.frozen 6
      have hc0c7 := hc0.cell 7 _ rfl
      have hc0f7 := hc0.frozen 7
      go_wp2_with fail
      go_ret
      exact ⟨rfl, hbl4⟩
    · have hcX := Cells.new w4 #[.int .i64 kind, .bool is, .bool neg, .string digits, .int .i64 exp, .string str, .slice ka kn kc, .slice sa sn sc] 27
      have hc0a := hc0.alloc (.cells #[.int .i64 kind, .bool is, .bool neg, .string digits, .int .i64 exp, .string str, .slice ka kn kc, .slice sa sn sc] 27)
      have hbla := hbl4.alloc hbl4.size (.cells #[.int .i64 kind, .bool is, .bool neg, .string digits, .int .i64 exp, .string str, .slice ka kn kc, .slice sa sn sc] 27)
      have hX : w.heap.size < w4.heap.size := hz4
      have HC := Lib.hid (And.intro hcX (And.intro hc0a hbla))
      have hc0c0 := hc0.cell 0 _ rfl
      have hc0f0 := hc0.frozen 0
      have hc0c1 := hc0.cell 1 _ rfl
      have hc0f1 := hc0.frozen 1
      have hc0c2 := hc0.cell 2 _ rfl
      have hc0f2 := hc0.frozen 2
      have hc0c3 := hc0.cell 3 _ rfl
      have hc0f3 := hc0.frozen 3
      have hc0c4 := hc0.cell 4 _ rfl
      have hc0f4 := hc0.frozen 4
      have hc0c5 := hc0.cell 5 _ rfl
      have hc0f5 := hc0.frozen 5
      have hc0c6 := hc0.cell 6 _ rfl
      have hc0f6 := hc0.frozen 6
      have hc0c7 := hc0.cell 7 _ rfl
      have hc0f7 := hc0.frozen 7
      go_wp2_with fail
      clear hc0c0 hc0c1 hc0c2 hc0c3 hc0c4 hc0c5 hc0c6 hc0c7 hc0f0 hc0f1 hc0f2 hc0f3 hc0f4 hc0f5 hc0f6 hc0f7 hc0 hcX hc0a hbla
      generalize w4.heap.size = X at *
      go_loopw [6, 27] (fun ok i wr => ∃ (k : Nat) (o : Option Tree) (cs : List Value), k ≤ l1.length ∧ i = .int .i64 (k : Int) ∧ ok = .bool o.isSome ∧ o = getPath (l1.take k) t0 ∧ Cells wr X cs.toArray 27 ∧ ValAt wr (o.getD zeroT) cs ∧
        Cells wr w.heap.size #[.int .i64 kind, .bool is, .bool neg, .string digits, .int .i64 exp, .string str, .slice ka kn kc, .slice sa sn sc] 27 ∧ Below w.heap.size w wr) (fun _ i _ => l1.length - (intOf i).toNat)
      case atStart => exact ⟨0, some t0, _, Nat.zero_le _, rfl, rfl, rfl, HC.out.1, ValAt.below HC.out.2.2 _ _ HV0.out, HC.out.2.1, HC.out.2.2⟩
      case round =>
        clear HC
        obtain ⟨k, o, cs, hkk, rfl, rfl, ho, hcx, hxv, hc0, hbl⟩ := hrel
        have HBL := Lib.hid hbl
        have HO := Lib.hid ho
        clear ho
        have hy0 := hc0.lt
        have hyX := hcx.lt
        obtain ⟨ckind, cis, cneg, cdig, cexp, cstr, cka, ckn, ckc, csa, csn, csc, rfl⟩ := hxv.shape
        by_cases hkl : k < l1.length
        · have hp1 := HW1.out.below hbl (Nat.le_refl _)
          obtain ⟨pb, po, rfl, hplt, hpcell⟩ := hp1.at hkl
          have hpk := hpcell k hkl
          have HST := Lib.hid (getPath_snoc hkl t0)
          clear hpcell hbl
          cases o with
          | none =>
            have HOL := Lib.hid (getPath_none HO.out.symm)
            clear HO HST
            generalize l1[k] = key at *
            have hA := At_any t0 hkt l1 _ wr _ (ValAt.below HBL.out _ _ HV0.out) (HW1.out.below HBL.out (Nat.le_refl _))
            obtain ⟨o, ho⟩ : ∃ o, o = getPath l1 t0 := ⟨_, rfl⟩
            rw [← ho] at hA
            have HO2 := Lib.hid ho
            clear ho
            simp only [valV] at hA
            have hc0c0 := hc0.cell 0 _ rfl
            have hc0f0 := hc0.frozen 0
            have hc0c1 := hc0.cell 1 _ rfl
            have hc0f1 := hc0.frozen 1
            have hc0c2 := hc0.cell 2 _ rfl
            have hc0f2 := hc0.frozen 2
            have hc0c3 := hc0.cell 3 _ rfl
            have hc0f3 := hc0.frozen 3
            have hc0c4 := hc0.cell 4 _ rfl
            have hc0f4 := hc0.frozen 4
            have hc0c5 := hc0.cell 5 _ rfl
            have hc0f5 := hc0.frozen 5
            have hc0c6 := hc0.cell 6 _ rfl
            have hc0f6 := hc0.frozen 6
            have hc0c7 := hc0.cell 7 _ rfl
            have hc0f7 := hc0.frozen 7
            go_wp2_with fail
            refine hA.mono ?_
            clear hA hc0c0 hc0c1 hc0c2 hc0c3 hc0c4 hc0c5 hc0c6 hc0c7 hc0f0 hc0f1 hc0f2 hc0f3 hc0f4 hc0f5 hc0f6 hc0f7
            rintro e w5 ⟨⟨cs5, rfl, hin5⟩, hb5⟩
            obtain ⟨ekind, eis, eneg, edig, eexp, estr, eka, ekn, ekc, esa, esn, esc, rfl⟩ := hin5.shape
            have hcx5 := hcx.below hb5 hcx.lt
            have hxv5 := ValAt.below hb5 _ _ hxv
            have hz5 := hcx5.lt
            have hin5' := (ValIn.at _ _ hin5).below_alloc (.cells #[.int .i64 ekind, .bool eis, .bool eneg, .string edig, .int .i64 eexp, .string estr, .slice eka ekn ekc, .slice esa esn esc] 27)
            have hxv5' := hxv5.below_alloc (.cells #[.int .i64 ekind, .bool eis, .bool eneg, .string edig, .int .i64 eexp, .string estr, .slice eka ekn ekc, .slice esa esn esc] 27)
            have hb6 := (HBL.out.trans (hb5.mono HBL.out.size)).alloc (HBL.out.trans (hb5.mono HBL.out.size)).size (.cells #[.int .i64 ekind, .bool eis, .bool eneg, .string edig, .int .i64 eexp, .string estr, .slice eka ekn ekc, .slice esa esn esc] 27)
            have HB6 := Lib.hid hb6
            clear hb6 hb5 hxv5 hin5 hxv
            obtain rfl : o = none := HO2.out.trans HOL.out
            have hC := rSame_yes zeroT _ _ _ hin5' (zero_at _)
            clear hin5' hxv5'
            simp only [valV, Option.isSome_none] at hC ⊢
            have hcx5c0 := hcx5.cell 0 _ rfl
            have hcx5f0 := hcx5.frozen 0
            have hcx5c1 := hcx5.cell 1 _ rfl
            have hcx5f1 := hcx5.frozen 1
            have hcx5c2 := hcx5.cell 2 _ rfl
            have hcx5f2 := hcx5.frozen 2
            have hcx5c3 := hcx5.cell 3 _ rfl
            have hcx5f3 := hcx5.frozen 3
            have hcx5c4 := hcx5.cell 4 _ rfl
            have hcx5f4 := hcx5.frozen 4
            have hcx5c5 := hcx5.cell 5 _ rfl
            have hcx5f5 := hcx5.frozen 5
            have hcx5c6 := hcx5.cell 6 _ rfl
            have hcx5f6 := hcx5.frozen 6
            have hcx5c7 := hcx5.cell 7 _ rfl
            have hcx5f7 := hcx5.frozen 7
            go_wp2_with fail
            refine hC.mono ?_
            rintro e w7 ⟨rfl, hb7⟩
            go_wp2_with fail
            go_ret
            exact ⟨rfl, HB6.out.trans (hb7.mono HB6.out.size)⟩
          | some cur =>
            have hcb : cur.bulk ≤ 1048576 := Nat.le_trans (getPath_bulk HO.out.symm) hkt
            have hG := Get_any cur hcb l1[k] wr _ hxv
            have hR := fun W hbw' => rget_any cur l1[k] wr W hbw' _ hxv
            have HST2 : Hid (getPath (l1.take (k + 1)) t0 = getT l1[k] cur) := Lib.hid (by rw [HST.out, ← HO.out]; rfl)
            clear HST HO
            generalize l1[k] = key at *
            obtain ⟨g, hg⟩ : ∃ g, g = getT key cur := ⟨_, rfl⟩
            rw [← hg] at hG HST2
            have hR2 : ∀ (W : World), Below wr.heap.size wr W → _ := fun W h => hR W h
            simp only [← hg] at hR2
            clear hR hg
            have HR := Lib.hid hR2
            clear hR2
            simp only [valV, Option.getD_some] at hG
            have hcx' := hcx
            have hcxc0 := hcx.cell 0 _ rfl
            have hcxf0 := hcx.frozen 0
            have hcxc1 := hcx.cell 1 _ rfl
            have hcxf1 := hcx.frozen 1
            have hcxc2 := hcx.cell 2 _ rfl
            have hcxf2 := hcx.frozen 2
            have hcxc3 := hcx.cell 3 _ rfl
            have hcxf3 := hcx.frozen 3
            have hcxc4 := hcx.cell 4 _ rfl
            have hcxf4 := hcx.frozen 4
            have hcxc5 := hcx.cell 5 _ rfl
            have hcxf5 := hcx.frozen 5
            have hcxc6 := hcx.cell 6 _ rfl
            have hcxf6 := hcx.frozen 6
            have hcxc7 := hcx.cell 7 _ rfl
            have hcxf7 := hcx.frozen 7
            go_wp2_with fail
            refine hG.mono ?_
            clear hG hcxc0 hcxc1 hcxc2 hcxc3 hcxc4 hcxc5 hcxc6 hcxc7 hcxf0 hcxf1 hcxf2 hcxf3 hcxf4 hcxf5 hcxf6 hcxf7
            rintro e w5 ⟨⟨cs2, rfl, hin2⟩, hb5⟩
            obtain ⟨dkind, dis, dneg, ddig, dexp, dstr, dka, dkn, dkc, dsa, dsn, dsc, rfl⟩ := hin2.shape
            have hcx5 := hcx'.below hb5 hyX
            have hc05 := hc0.below hb5 hy0
            have hz5 := hcx5.lt
            have hzs := hb5.size
            have hbR := hb5.alloc hb5.size (.cells #[.int .i64 dkind, .bool dis, .bool dneg, .string ddig, .int .i64 dexp, .string dstr, .slice dka dkn dkc, .slice dsa dsn dsc] 27)
            have hG2 := HR.out _ hbR
            have hnew := Cells.new w5 #[.int .i64 dkind, .bool dis, .bool dneg, .string ddig, .int .i64 dexp, .string dstr, .slice dka dkn dkc, .slice dsa dsn dsc] 27
            have HS := Lib.hid (And.intro hnew (And.intro (hcx5.alloc (.cells #[.int .i64 dkind, .bool dis, .bool dneg, .string ddig, .int .i64 dexp, .string dstr, .slice dka dkn dkc, .slice dsa dsn dsc] 27)) (And.intro (hc05.alloc (.cells #[.int .i64 dkind, .bool dis, .bool dneg, .string ddig, .int .i64 dexp, .string dstr, .slice dka dkn dkc, .slice dsa dsn dsc] 27)) (ValIn.move (P := fun m => wr.heap.size ≤ m) (Q := fun m => wr.heap.size ≤ m) (w' := w5.alloc (.cells #[.int .i64 dkind, .bool dis, .bool dneg, .string ddig, .int .i64 dexp, .string dstr, .slice dka dkn dkc, .slice dsa dsn dsc] 27)) (by simp) (fun m _ hm => Below.heap_alloc _ _ _ hm) (fun _ h _ => h) _ _ hin2))))
            have HBR := Lib.hid hbR
            clear hnew hin2 hbR hb5 hc05
            simp only [valV] at hG2 ⊢
            have hcx5c0 := hcx5.cell 0 _ rfl
            have hcx5f0 := hcx5.frozen 0
            have hcx5c1 := hcx5.cell 1 _ rfl
            have hcx5f1 := hcx5.frozen 1
            have hcx5c2 := hcx5.cell 2 _ rfl
            have hcx5f2 := hcx5.frozen 2
            have hcx5c3 := hcx5.cell 3 _ rfl
            have hcx5f3 := hcx5.frozen 3
            have hcx5c4 := hcx5.cell 4 _ rfl
            have hcx5f4 := hcx5.frozen 4
            have hcx5c5 := hcx5.cell 5 _ rfl
            have hcx5f5 := hcx5.frozen 5
            have hcx5c6 := hcx5.cell 6 _ rfl
            have hcx5f6 := hcx5.frozen 6
            have hcx5c7 := hcx5.cell 7 _ rfl
            have hcx5f7 := hcx5.frozen 7
            go_wp2_with fail
            refine hG2.mono ?_
            clear hG2 hcx5c0 hcx5c1 hcx5c2 hcx5c3 hcx5c4 hcx5c5 hcx5c6 hcx5c7 hcx5f0 hcx5f1 hcx5f2 hcx5f3 hcx5f4 hcx5f5 hcx5f6 hcx5f7 hcx5
            rintro e w6 ⟨⟨cs3, rfl, hv3⟩, hb6⟩
            obtain ⟨fkind, fis, fneg, fdig, fexp, fstr, fka, fkn, fkc, fsa, fsn, fsc, rfl⟩ := hv3.shape
            obtain ⟨hn5, hx5, h05, hi5⟩ := HS.out
            have hn6 := hn5.below hb6 hn5.lt
            have hx6 := hx5.below hb6 hx5.lt
            have h06 := h05.below hb6 h05.lt
            have hi6 := ValIn.below hb6 _ _ hi5
            have hb36 := HBR.out.trans (hb6.mono HBR.out.size)
            have hz6 := hn6.lt
            have hC := rSame_yes (g.getD zeroT) (w6.alloc (.cells #[.int .i64 fkind, .bool fis, .bool fneg, .string fdig, .int .i64 fexp, .string fstr, .slice fka fkn fkc, .slice fsa fsn fsc] 27)) _ _ ((ValIn.at _ _ hi6).below_alloc _) ((ValAt.below hb36 _ _ hv3).below_alloc _)
            have HS6 := Lib.hid (And.intro (hx6.alloc (.cells #[.int .i64 fkind, .bool fis, .bool fneg, .string fdig, .int .i64 fexp, .string fstr, .slice fka fkn fkc, .slice fsa fsn fsc] 27)) (And.intro (h06.alloc (.cells #[.int .i64 fkind, .bool fis, .bool fneg, .string fdig, .int .i64 fexp, .string fstr, .slice fka fkn fkc, .slice fsa fsn fsc] 27)) (And.intro (ValIn.move (P := fun m => wr.heap.size ≤ m) (Q := fun m => wr.heap.size ≤ m) (w' := w6.alloc (.cells #[.int .i64 fkind, .bool fis, .bool fneg, .string fdig, .int .i64 fexp, .string fstr, .slice fka fkn fkc, .slice fsa fsn fsc] 27)) (by simp) (fun m _ hm => Below.heap_alloc _ _ _ hm) (fun _ h _ => h) _ _ hi6) (And.intro (hn6.alloc (.cells #[.int .i64 fkind, .bool fis, .bool fneg, .string fdig, .int .i64 fexp, .string fstr, .slice fka fkn fkc, .slice fsa fsn fsc] 27)) (hb36.alloc hb36.size (.cells #[.int .i64 fkind, .bool fis, .bool fneg, .string fdig, .int .i64 fexp, .string fstr, .slice fka fkn fkc, .slice fsa fsn fsc] 27))))))
            clear HS hn5 hx5 h05 hi5 hx6 h06 hi6 hb36 hb6 hv3
            simp only [valV] at hC ⊢
            have hn6c0 := hn6.cell 0 _ rfl
            have hn6f0 := hn6.frozen 0
            have hn6c1 := hn6.cell 1 _ rfl
            have hn6f1 := hn6.frozen 1
            have hn6c2 := hn6.cell 2 _ rfl
            have hn6f2 := hn6.frozen 2
            have hn6c3 := hn6.cell 3 _ rfl
            have hn6f3 := hn6.frozen 3
            have hn6c4 := hn6.cell 4 _ rfl
            have hn6f4 := hn6.frozen 4
            have hn6c5 := hn6.cell 5 _ rfl
            have hn6f5 := hn6.frozen 5
            have hn6c6 := hn6.cell 6 _ rfl
            have hn6f6 := hn6.frozen 6
            have hn6c7 := hn6.cell 7 _ rfl
            have hn6f7 := hn6.frozen 7
            go_wp2_with fail
            refine hC.mono ?_
            clear hC hn6c0 hn6c1 hn6c2 hn6c3 hn6c4 hn6c5 hn6c6 hn6c7 hn6f0 hn6f1 hn6f2 hn6f3 hn6f4 hn6f5 hn6f6 hn6f7 hn6
            rintro e w7 ⟨rfl, hb7⟩
            obtain ⟨hx6, h06, hi6, hn6, hbb⟩ := HS6.out
            have hx7 := hx6.below hb7 hx6.lt
            have h07 := h06.below hb7 h06.lt
            have hn7 := hn6.below hb7 hn6.lt
            have hi7 := ValIn.below hb7 _ _ hi6
            have hb8 := HBL.out.trans ((hbb.trans (hb7.mono hbb.size)).mono HBL.out.size)
            have hz7 := hx7.lt
            have hz8 := hn7.lt
            have HE := Lib.hid (And.intro (hx7.putAll [.int .i64 dkind, .bool dis, .bool dneg, .string ddig, .int .i64 dexp, .string dstr, .slice dka dkn dkc, .slice dsa dsn dsc] rfl) (And.intro (ValIn.at _ _ (ValIn.move (P := fun m => wr.heap.size ≤ m) (Q := fun _ => True) (w' := setAll w7 X 0 [.int .i64 dkind, .bool dis, .bool dneg, .string ddig, .int .i64 dexp, .string dstr, .slice dka dkn dkc, .slice dsa dsn dsc]) (Nat.le_of_eq (setAll_size _ _ _ _).symm) (fun m hm _ => setAll_other _ _ _ _ m (by omega)) (fun _ _ _ => trivial) _ _ hi7))
              (And.intro (h07.setAllOther (B := X) (o := 0) (l := [.int .i64 dkind, .bool dis, .bool dneg, .string ddig, .int .i64 dexp, .string dstr, .slice dka dkn dkc, .slice dsa dsn dsc]) (by omega)) (setAll_below X w.heap.size (by omega) [.int .i64 dkind, .bool dis, .bool dneg, .string ddig, .int .i64 dexp, .string dstr, .slice dka dkn dkc, .slice dsa dsn dsc] 0 _ _ hb8))))
            clear hb7 hx6 h06 hi6 hn6 hbb hi7 h07 hb8 HS6
            have hx7c0 := hx7.cell 0 _ rfl
            have hx7f0 := hx7.frozen 0
            have hx7c1 := hx7.cell 1 _ rfl
            have hx7f1 := hx7.frozen 1
            have hx7c2 := hx7.cell 2 _ rfl
            have hx7f2 := hx7.frozen 2
            have hx7c3 := hx7.cell 3 _ rfl
            have hx7f3 := hx7.frozen 3
            have hx7c4 := hx7.cell 4 _ rfl
            have hx7f4 := hx7.frozen 4
            have hx7c5 := hx7.cell 5 _ rfl
            have hx7f5 := hx7.frozen 5
            have hx7c6 := hx7.cell 6 _ rfl
            have hx7f6 := hx7.frozen 6
            have hx7c7 := hx7.cell 7 _ rfl
            have hx7f7 := hx7.frozen 7
            have hn7c0 := hn7.cell 0 _ rfl
            have hn7f0 := hn7.frozen 0
            have hn7c1 := hn7.cell 1 _ rfl
            have hn7f1 := hn7.frozen 1
            have hn7c2 := hn7.cell 2 _ rfl
            have hn7f2 := hn7.frozen 2
            have hn7c3 := hn7.cell 3 _ rfl
            have hn7f3 := hn7.frozen 3
            have hn7c4 := hn7.cell 4 _ rfl
            have hn7f4 := hn7.frozen 4
            have hn7c5 := hn7.cell 5 _ rfl
            have hn7f5 := hn7.frozen 5
            have hn7c6 := hn7.cell 6 _ rfl
            have hn7f6 := hn7.frozen 6
            have hn7c7 := hn7.cell 7 _ rfl
            have hn7f7 := hn7.frozen 7
            clear hx7 hn7
            go_wp2_with fail
            go_roundw
            case rel => exact ⟨k + 1, g, [.int .i64 dkind, .bool dis, .bool dneg, .string ddig, .int .i64 dexp, .string dstr, .slice dka dkn dkc, .slice dsa dsn dsc], hkl, by go_num, rfl, HST2.out.symm, HE.out.1, HE.out.2.1, HE.out.2.2.1, HE.out.2.2.2⟩
            case measure => simp [intOf]; omega
        · obtain rfl : k = l1.length := by omega
          rw [List.take_length] at HO
          clear hbl
          cases o with
          | none =>
            have hA := At_any t0 hkt l1 _ wr _ (ValAt.below HBL.out _ _ HV0.out) (HW1.out.below HBL.out (Nat.le_refl _))
            obtain ⟨o, ho⟩ : ∃ o, o = getPath l1 t0 := ⟨_, rfl⟩
            rw [← ho] at hA
            have HO2 := Lib.hid ho
            clear ho
            simp only [valV] at hA
            have hc0c0 := hc0.cell 0 _ rfl
            have hc0f0 := hc0.frozen 0
            have hc0c1 := hc0.cell 1 _ rfl
            have hc0f1 := hc0.frozen 1
            have hc0c2 := hc0.cell 2 _ rfl
            have hc0f2 := hc0.frozen 2
            have hc0c3 := hc0.cell 3 _ rfl
            have hc0f3 := hc0.frozen 3
            have hc0c4 := hc0.cell 4 _ rfl
            have hc0f4 := hc0.frozen 4
            have hc0c5 := hc0.cell 5 _ rfl
            have hc0f5 := hc0.frozen 5
            have hc0c6 := hc0.cell 6 _ rfl
            have hc0f6 := hc0.frozen 6
            have hc0c7 := hc0.cell 7 _ rfl
            have hc0f7 := hc0.frozen 7
            go_wp2_with fail
            refine hA.mono ?_
            clear hA hc0c0 hc0c1 hc0c2 hc0c3 hc0c4 hc0c5 hc0c6 hc0c7 hc0f0 hc0f1 hc0f2 hc0f3 hc0f4 hc0f5 hc0f6 hc0f7
            rintro e w5 ⟨⟨cs5, rfl, hin5⟩, hb5⟩
            obtain ⟨ekind, eis, eneg, edig, eexp, estr, eka, ekn, ekc, esa, esn, esc, rfl⟩ := hin5.shape
            have hcx5 := hcx.below hb5 hcx.lt
            have hxv5 := ValAt.below hb5 _ _ hxv
            have hz5 := hcx5.lt
            have hin5' := (ValIn.at _ _ hin5).below_alloc (.cells #[.int .i64 ekind, .bool eis, .bool eneg, .string edig, .int .i64 eexp, .string estr, .slice eka ekn ekc, .slice esa esn esc] 27)
            have hxv5' := hxv5.below_alloc (.cells #[.int .i64 ekind, .bool eis, .bool eneg, .string edig, .int .i64 eexp, .string estr, .slice eka ekn ekc, .slice esa esn esc] 27)
            have hb6 := (HBL.out.trans (hb5.mono HBL.out.size)).alloc (HBL.out.trans (hb5.mono HBL.out.size)).size (.cells #[.int .i64 ekind, .bool eis, .bool eneg, .string edig, .int .i64 eexp, .string estr, .slice eka ekn ekc, .slice esa esn esc] 27)
            have HB6 := Lib.hid hb6
            clear hb6 hb5 hxv5 hin5 hxv
            obtain rfl : o = none := HO2.out.trans HO.out.symm
            have hC := rSame_yes zeroT _ _ _ hin5' (zero_at _)
            clear hin5' hxv5'
            simp only [valV, Option.isSome_none] at hC ⊢
            have hcx5c0 := hcx5.cell 0 _ rfl
            have hcx5f0 := hcx5.frozen 0
            have hcx5c1 := hcx5.cell 1 _ rfl
            have hcx5f1 := hcx5.frozen 1
            have hcx5c2 := hcx5.cell 2 _ rfl
            have hcx5f2 := hcx5.frozen 2
            have hcx5c3 := hcx5.cell 3 _ rfl
            have hcx5f3 := hcx5.frozen 3
            have hcx5c4 := hcx5.cell 4 _ rfl
            have hcx5f4 := hcx5.frozen 4
            have hcx5c5 := hcx5.cell 5 _ rfl
            have hcx5f5 := hcx5.frozen 5
            have hcx5c6 := hcx5.cell 6 _ rfl
            have hcx5f6 := hcx5.frozen 6
            have hcx5c7 := hcx5.cell 7 _ rfl
            have hcx5f7 := hcx5.frozen 7
            go_wp2_with fail
            refine hC.mono ?_
            rintro e w7 ⟨rfl, hb7⟩
            go_wp2_with fail
            go_ret
            exact ⟨rfl, HB6.out.trans (hb7.mono HB6.out.size)⟩
          | some cur =>
            have hA := At_any t0 hkt l1 _ wr _ (ValAt.below HBL.out _ _ HV0.out) (HW1.out.below HBL.out (Nat.le_refl _))
            obtain ⟨o, ho⟩ : ∃ o, o = getPath l1 t0 := ⟨_, rfl⟩
            rw [← ho] at hA
            have HO2 := Lib.hid ho
            clear ho
            simp only [valV] at hA
            have hc0c0 := hc0.cell 0 _ rfl
            have hc0f0 := hc0.frozen 0
            have hc0c1 := hc0.cell 1 _ rfl
            have hc0f1 := hc0.frozen 1
            have hc0c2 := hc0.cell 2 _ rfl
            have hc0f2 := hc0.frozen 2
            have hc0c3 := hc0.cell 3 _ rfl
            have hc0f3 := hc0.frozen 3
            have hc0c4 := hc0.cell 4 _ rfl
            have hc0f4 := hc0.frozen 4
            have hc0c5 := hc0.cell 5 _ rfl
            have hc0f5 := hc0.frozen 5
            have hc0c6 := hc0.cell 6 _ rfl
            have hc0f6 := hc0.frozen 6
            have hc0c7 := hc0.cell 7 _ rfl
            have hc0f7 := hc0.frozen 7
            go_wp2_with fail
            refine hA.mono ?_
            clear hA hc0c0 hc0c1 hc0c2 hc0c3 hc0c4 hc0c5 hc0c6 hc0c7 hc0f0 hc0f1 hc0f2 hc0f3 hc0f4 hc0f5 hc0f6 hc0f7
            rintro e w5 ⟨⟨cs5, rfl, hin5⟩, hb5⟩
            obtain ⟨ekind, eis, eneg, edig, eexp, estr, eka, ekn, ekc, esa, esn, esc, rfl⟩ := hin5.shape
            have hcx5 := hcx.below hb5 hcx.lt
            have hxv5 := ValAt.below hb5 _ _ hxv
            have hz5 := hcx5.lt
            have hin5' := (ValIn.at _ _ hin5).below_alloc (.cells #[.int .i64 ekind, .bool eis, .bool eneg, .string edig, .int .i64 eexp, .string estr, .slice eka ekn ekc, .slice esa esn esc] 27)
            have hxv5' := hxv5.below_alloc (.cells #[.int .i64 ekind, .bool eis, .bool eneg, .string edig, .int .i64 eexp, .string estr, .slice eka ekn ekc, .slice esa esn esc] 27)
            have hb6 := (HBL.out.trans (hb5.mono HBL.out.size)).alloc (HBL.out.trans (hb5.mono HBL.out.size)).size (.cells #[.int .i64 ekind, .bool eis, .bool eneg, .string edig, .int .i64 eexp, .string estr, .slice eka ekn ekc, .slice esa esn esc] 27)
            have HB6 := Lib.hid hb6
            clear hb6 hb5 hxv5 hin5 hxv
            obtain rfl : o = some cur := HO2.out.trans HO.out.symm
            have hC := rSame_yes cur _ _ _ hin5' hxv5'
            clear hin5' hxv5'
            simp only [valV, Option.isSome_some] at hC ⊢
            have hcx5c0 := hcx5.cell 0 _ rfl
            have hcx5f0 := hcx5.frozen 0
            have hcx5c1 := hcx5.cell 1 _ rfl
            have hcx5f1 := hcx5.frozen 1
            have hcx5c2 := hcx5.cell 2 _ rfl
            have hcx5f2 := hcx5.frozen 2
            have hcx5c3 := hcx5.cell 3 _ rfl
            have hcx5f3 := hcx5.frozen 3
            have hcx5c4 := hcx5.cell 4 _ rfl
            have hcx5f4 := hcx5.frozen 4
            have hcx5c5 := hcx5.cell 5 _ rfl
            have hcx5f5 := hcx5.frozen 5
            have hcx5c6 := hcx5.cell 6 _ rfl
            have hcx5f6 := hcx5.frozen 6
            have hcx5c7 := hcx5.cell 7 _ rfl
            have hcx5f7 := hcx5.frozen 7
            go_wp2_with fail
            refine hC.mono ?_
            rintro e w7 ⟨rfl, hb7⟩
            go_wp2_with fail
            go_ret
            exact ⟨rfl, HB6.out.trans (hb7.mono HB6.out.size)⟩
  · skip
    have hc0c0 := hc0.cell 0 _ rfl
    have hc0f0 := hc0.frozen 0
    have hc0c1 := hc0.cell 1 _ rfl
    have hc0f1 := hc0.frozen 1
    have hc0c2 := hc0.cell 2 _ rfl
    have hc0f2 := hc0.frozen 2
    have hc0c3 := hc0.cell 3 _ rfl
    have hc0f3 := hc0.frozen 3
    have hc0c4 := hc0.cell 4 _ rfl
    have hc0f4 := hc0.frozen 4
    have hc0c5 := hc0.cell 5 _ rfl
    have hc0f5 := hc0.frozen 5
    have hc0c6 := hc0.cell 6 _ rfl
    have hc0f6 := hc0.frozen 6
    have hc0c7 := hc0.cell 7 _ rfl
    have hc0f7 := hc0.frozen 7
    go_wp2_with fail
    go_ret
    exact ⟨rfl, hbl4⟩
end Go.Proofs.YtpcfhiipkbpmkaaDoor
