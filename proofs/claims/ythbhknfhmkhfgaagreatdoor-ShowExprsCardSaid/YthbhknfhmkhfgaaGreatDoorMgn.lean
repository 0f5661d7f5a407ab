/- Texts of this claim, one behind the other: LxW, RiD, RiF, TrwY, LxY, RgF, RiG, RiE, ExU, Spo, ExW, RiH, PnH, RfA, RfB. -/
import Derived.Test.YthbhknfhmkhfgaaGreatDoorMgb
import Derived.Test.YthbhknfhmkhfgaaGreatDoorMgc
import Derived.Test.YthbhknfhmkhfgaaGreatDoorMgd
import Derived.Test.YthbhknfhmkhfgaaGreatDoorMge
import Derived.Test.YthbhknfhmkhfgaaGreatDoorMgg
import Derived.Test.YthbhknfhmkhfgaaGreatDoorMgh
import Derived.Test.YthbhknfhmkhfgaaGreatDoorMgl
import Derived.Test.YthbhknfhmkhfgaaGreatDoorMgm
import Derived.RangeFuncNested
import Derived.RangeFuncBound
import Derived.RangeFuncBox
import Derived.RangeFuncCalls
import Derived.RangeFuncLeaves
import Derived.Shelf.Abstract
import Derived.Shelf.RegionOpen
import Derived.WalkKit
import Derived.WalkMore
import Derived.OwnWalkIn
import Derived.TacticsInMore
import Derived.LoopNIn
import Derived.LoopIn
import Derived.RangeFuncWrites
import Derived.RangeFuncKeeps
import Derived.Laws.EntriesVeiled
set_option linter.unusedSimpArgs false
set_option linter.unusedVariables false
namespace Go.Proofs.YthbhknfhmkhfgaaGreatDoor
set_option maxRecDepth 100000
set_option maxHeartbeats 20000000
open Go.RowKit Go.Tab
theorem rOne_any (s : ByteArray) (k : Nat) (w : World) (hs : s.size <= 1048576) (hk : k < s.size) :
  Calls Tryz.prog 27 #[.string s, .int .i64 (k : Nat)] w (OneP w s k (one1 (s.data.toList.drop k))) := by
 have hd := drop_at hk; have h1 : one1 (s.data.toList.drop k) = one1 (s[k]'hk :: s.data.toList.drop (k + 1)) := by rw [hd]
 rw [h1, one1]
 by_cases hl : letB (s[k]'hk) = true
 ·rw [if_pos hl]
  refine one_word s k w hs hk ?_ hl; intro h; rw [h] at hl
  revert hl; decide
 rw [if_neg hl]; have hl2 : letB (s[k]'hk) = false := by simpa using hl
 by_cases hg : dg (s[k]'hk) = true
 ·rw [if_pos hg, <- hd]
  exact one_number s k w hs hk hl2 hg
 rw [if_neg hg]; have hg2 : dg (s[k]'hk) = false := by simpa using hg
 by_cases h34 : s[k]'hk = 34
 ·rw [if_pos h34, <- hd]
  exact one_quoted s k w hs hk h34
 rw [if_neg h34]
 by_cases h10 : s[k]'hk = 10
 ·rw [if_pos h10]
  exact one_line s k w hs hk h10
 rw [if_neg h10]
 by_cases hr : s[k]'hk = 35 \/ (s[k]'hk = 47 /\ (s.data.toList.drop (k + 1)).head? = some 47)
 ·rw [if_pos hr, <- hd]
  exact one_remark s k w hs hk hr
 rw [if_neg hr]
 by_cases ha : s[k]'hk = 47 /\ (s.data.toList.drop (k + 1)).head? = some 42
 ·rw [if_pos ha, <- hd]
  exact one_aside s k w hs hk ha.1 ha.2
 rw [if_neg ha, <- hd]; exact one_sign s k w hs hk h10 hl2 hg2 h34 (fun h => hr (.inl h)) (fun h => hr (.inr h)) ha
theorem rLex_any (s : ByteArray) (w : World) (hs : s.size <= 1048576) :
  Calls Tryz.prog 10 #[.string s] w (TellP w (lexL s.data.toList 0).1 (lexL s.data.toList 0).2.1 (lexL s.data.toList 0).2.2) := by
 have hb0 : Below w.heap.size w (w.alloc (.cells #[.slice none 0 0, .int .i64 0, .int .i64 0] 32)) := (Below.refl _ w).alloc (Nat.le_refl _) _; have hbx0 := Cells.new w #[.slice none 0 0, .int .i64 0, .int .i64 0] 32; have HH := Lib.hid (And.intro hb0 hbx0); clear hb0 hbx0; go_enter Tryz.func10, Tryz.ntmps10; go_wp2_with fail; go_loopw [3, 4, 5] (fun o p _ wr => ∃ (k : Nat) (pre : List Tok), p = .int .i64 (k : Int) /\ k <= s.size /\ LexRest s.data.toList k pre /\ OwnT (w.heap.size + 1) wr o pre /\ Cells wr w.heap.size #[.slice none 0 0, .int .i64 0, .int .i64 0] 32 /\ Below w.heap.size w wr) (fun _ p _ _ => s.size - (intOf p).toNat)
 case atStart => exact ⟨0, [], rfl, Nat.zero_le _, LexRest.zero _, OwnT.nil, HH.out.2, HH.out.1⟩
 case round =>
  clear HH; obtain ⟨k, pre, rfl, hk, hR, hown, hc, hb⟩ := hrel; have hl := hc.lt
  by_cases hlt : k < s.size
  ·have hB := Blank_any (s[k]'hlt)
   have hkl : k < s.data.toList.length := by rw [<- size_list]; exact hlt
   have hRl := hR.len; rw [<- size_list] at hRl; have HR := Lib.hid hR; clear hR
   cases hb1 : blankB (s[k]'hlt) with
   | true =>
    rw [hb1] at hB; have HR2 := Lib.hid (HR.out.blank hkl hb1); have HX := Lib.hid (And.intro hown (And.intro hc hb)); clear HR hb1 hown hc hb; go_wp2_with fail; refine (hB _).mono ?_; rintro _ _ ⟨rfl, hw1⟩; cases hw1
    go_wp2; go_roundw
    case rel => exact ⟨k + 1, pre, by go_num, by omega, HR2.out, HX.out.1, HX.out.2.1, HX.out.2.2⟩
    case measure => simp [intOf]; omega
   | false =>
    rw [hb1] at hB; have hO := rOne_any s k; unfold OneP at hO; obtain ⟨va, vc, rfl⟩ := hown.len
    cases ho : one1 (s.data.toList.drop k) with
    | bad o e =>
     have HD := Lib.hid (HR.out.bad hkl hb1 ho); have hne : (e != 0) = true := by simpa using one1_err ho
     rw [ho] at hO; simp only [lrT] at hO; clear HR hb1 ho; go_wp2_with fail; refine (hB _).mono ?_; rintro _ _ ⟨rfl, hw1⟩; cases hw1
     go_wp2_with fail; refine (hO _ hs hlt).mono ?_; rintro _ w2 ⟨v2, rfl, hown2, hb2⟩; obtain ⟨ua, uc, rfl⟩ := hown2.len; have hc9 := hc.below hb2 hl; have hl2 := hc9.lt; have HX := Lib.hid (And.intro (hown.below hb2 (Nat.le_refl _)) (And.intro hc9 (hb.trans (hb2.mono hb.size)))); clear hown2 hb2 hown hc hb; have hc9c0 := hc9.cell 0 _ rfl; have hc9f0 := hc9.frozen 0; have hc9c1 := hc9.cell 1 _ rfl; have hc9f1 := hc9.frozen 1; have hc9c2 := hc9.cell 2 _ rfl; have hc9f2 := hc9.frozen 2; clear hc9; go_wp2; have hq := (((HX.out.2.1.setI 0 (.slice va pre.length vc)).setI 1 (.int .i64 ((k : Int) + o))).setI 2 (.int .i64 e)).alloc (.cells #[.slice ua 0 uc, .int .i64 ((k : Int) + o), .int .i64 e] 32); have hx := hq.cell 0 _ rfl; have hy := hq.cell 1 _ rfl; have hz := hq.cell 2 _ rfl; refine bodyPost_ret (v := .agg #[.slice va pre.length vc, .int .i64 ((k : Int) + o), .int .i64 e]) (by simp [results, Tryz.results10, go_sem, hx, hy, hz]) rfl ?_
     rw [HD.out]; exact ⟨.slice va pre.length vc, by simp, ((OwnT.moved (w' := setAll w2 w.heap.size 0 [.slice va pre.length vc, .int .i64 ((k : Int) + o), .int .i64 e]) HX.out.1 (fun q hq => setAll_other _ _ 0 _ q (by have := (World.ownsRow.lt HX.out.1 q hq).1; omega))).base_le (Nat.le_succ _)).alloc _, (setAll_below _ _ (Nat.le_refl _) [.slice va pre.length vc, .int .i64 ((k : Int) + o), .int .i64 e] 0 _ _ HX.out.2.2).alloc (by rw [setAll_size]; exact HX.out.2.2.size) _⟩
    | tok kd sz =>
     have HD := Lib.hid (HR.out.tok hkl hb1 ho); have hsz := one1_size ho; rw [List.length_drop, <- size_list] at hsz; have hEx : strL ((s.data.toList.drop k).take sz) = s.extract k (k + sz) := str_ext (by rw [ext_list, strL_list, List.drop_take]; congr 1; omega)
     rw [hEx] at HD; have hes : (s.extract k (k + sz)).size = sz := by rw [ByteArray.size_extract]; omega
     rw [ho] at hO; simp only [lrT] at hO; clear HR hb1 ho hEx; generalize s.extract k (k + sz) = tx at *; go_wp2_with fail; refine (hB _).mono ?_; rintro _ _ ⟨rfl, hw1⟩; cases hw1
     go_wp2_with fail; refine (hO _ hs hlt).mono ?_; rintro _ w2 ⟨v2, rfl, hown2, hb2⟩; obtain ⟨ua, uc, rfl⟩ := hown2.len; obtain ⟨ub, uo, rfl, hub, q0, q1, q2⟩ := ToksAt.get (OwnT.toks hown2) (j := 0) (by simp)
     simp only [List.length_cons, List.length_nil, Nat.zero_add, List.getElem_cons_zero, Nat.zero_mul, Nat.add_zero] at q0 q1 q2 hown2; go_wp2_with (with_reducible first | refine stop_append ?_)
     refine Stop.out ?_; have hown3 := ((hown.below hb2 (Nat.le_refl _)).alloc (.cells #[.slice (some ⟨ub, uo, none⟩) 1 uc, .int .i64 0, .int .i64 0] 32)).alloc (.cells #[.int .i64 (kd : Nat), .string tx, .int .i64 (k : Nat)] 36); have hub2 := (World.ownsRow.lt hown2 ub rfl).1; refine wpList_append_tok rfl _ _ rfl (w.heap.size + 1) pre ⟨(kd : Nat), tx, (k : Nat)⟩ hown3 (w2.heap.size + 1) rfl (by simp) (by simp) (by simp) (by omega) (by have := hb2.size; simp; omega) _ (Below.refl _ _) ?_
     intro v' w' hown' hb9 hg'; have hb' : Below w.heap.size w w' := (((hb.trans (hb2.mono hb.size)).alloc (Nat.le_trans hb.size hb2.size) (.cells #[.slice (some ⟨ub, uo, none⟩) 1 uc, .int .i64 0, .int .i64 0] 32)).alloc (by have := hb.size; have := hb2.size; simp; omega) (.cells #[.int .i64 (kd : Nat), .string tx, .int .i64 (k : Nat)] 36)).trans (hb9.mono (Nat.le_succ _))
     have hrow : ∀ b, (Value.slice va pre.length vc).ownBlock = some b -> b < wr.heap.size := fun b hbb => (World.ownsRow.lt hown b hbb).2; have hs2 := hb2.size; have hcw : Cells w' w.heap.size #[.slice none 0 0, .int .i64 0, .int .i64 0] 32 := (((hc.below hb2 hl).alloc _).alloc _).kept hg' (fun e => by have := (World.ownsRow.lt hown _ e.symm).1; omega)
     have hcx : Cells w' w2.heap.size #[.slice (some ⟨ub, uo, none⟩) 1 uc, .int .i64 0, .int .i64 0] 32 := ((Cells.new w2 _ _).alloc _).kept hg' (fun e => by have := hrow _ e.symm; omega)
     have q1' : w'.cell? ⟨ub, uo + 1, none⟩ = some (.string tx) := by
      rw [cell_same (hg'.block ub (by simp; omega) (fun e => by have := hrow _ e.symm; omega))]
      rw [World.cell?_alloc_past _ _ _ (by simp; omega), World.cell?_alloc_past _ _ _ hub]
      exact q1
     have hxl := hcx.lt; have HX := Lib.hid (And.intro hown' (And.intro hcw hb')); obtain ⟨xa, xc, hve⟩ := hown'.len; subst hve; clear hown' hb' hb9 hg' hcw hown3 hown2 hb2 hown hc hb q0 q1 q2 hrow; have hcxc0 := hcx.cell 0 _ rfl; have hcxf0 := hcx.frozen 0; have hcxc1 := hcx.cell 1 _ rfl; have hcxf1 := hcx.frozen 1; have hcxc2 := hcx.cell 2 _ rfl; have hcxf2 := hcx.frozen 2; clear hcx; go_wp2; go_roundw
     case rel => exact ⟨k + sz, _, by go_num, by omega, HD.out, by simpa using HX.out.1, HX.out.2.1, HX.out.2.2⟩
     case measure => simp [intOf]; omega
  ·obtain rfl : k = s.size := by omega
   have HD := Lib.hid (hR.done (size_list s)); obtain ⟨va, vc, rfl⟩ := hown.len; have hc2 := hc; have HX := Lib.hid (And.intro hown hb); clear hR hown hb; have hcc0 := hc.cell 0 _ rfl; have hcf0 := hc.frozen 0; have hcc1 := hc.cell 1 _ rfl; have hcf1 := hc.frozen 1; have hcc2 := hc.cell 2 _ rfl; have hcf2 := hc.frozen 2; go_wp2; have hq := ((hc2.setI 0 (.slice va pre.length vc)).setI 1 (.int .i64 (-1))).setI 2 (.int .i64 0); have hx := hq.cell 0 _ rfl; have hy := hq.cell 1 _ rfl; have hz := hq.cell 2 _ rfl; refine bodyPost_ret (v := .agg #[.slice va pre.length vc, .int .i64 (-1), .int .i64 0]) (by simp [results, Tryz.results10, go_sem, hx, hy, hz]) rfl ?_
   rw [HD.out]; exact ⟨_, rfl, (HX.out.1.moved (fun q hq => setAll_other _ [.slice va pre.length vc, .int .i64 (-1), .int .i64 0] 0 _ q (by have := (World.ownsRow.lt HX.out.1 q hq).1; omega))).base_le (Nat.le_succ _), setAll_below _ _ (Nat.le_refl _) [.slice va pre.length vc, .int .i64 (-1), .int .i64 0] 0 _ _ HX.out.2⟩
def alone3 (l : List Tok) (z k : Int) (s : ByteArray) : Bool := match l with
 | [t] => decide (z = 0) && (decide (t.kind = k) && decide (t.text = s))
 | _ => false
theorem aloneB_3 (s : ByteArray) (k : Int) : aloneB s k = alone3 (lexL s.data.toList 0).1 (lexL s.data.toList 0).2.2 k s := by
 unfold aloneB alone3; generalize lexL s.data.toList 0 = x; obtain ⟨l, p, z⟩ := x; rcases l with _ | ⟨t, _ | ⟨u, r⟩⟩ <;> rfl
theorem rAlone_any (s : ByteArray) (k : Int) (w : World) (hs : s.size <= 1048576) :
  Calls Tryz.prog 29 #[.string s, .int .i64 k] w fun e w' => e = .returned (.bool (aloneB s k)) /\ Below w.heap.size w w' := by
 have hP := rLex_any s w (by omega)
 rw [aloneB_3]; obtain ⟨⟨l, p, z⟩, hx⟩ : ∃ x, lexL s.data.toList 0 = x := ⟨_, rfl⟩; rw [hx] at hP ⊢; clear hx; simp only at hP ⊢; obtain ⟨bb, hbb⟩ : ∃ b, alone3 l z k s = b := ⟨_, rfl⟩; rw [hbb]; have HBB := Lib.hid hbb; clear hbb; go_enter Tryz.func29, Tryz.ntmps29; go_wp2_with fail; refine hP.mono ?_; rintro _ w2 ⟨v, rfl, hown, hb2⟩; obtain ⟨va, vc, rfl⟩ := hown.len; have hb3 : Below w2.heap.size w2 (w2.alloc (.cells #[.slice va l.length vc, .int .i64 p, .int .i64 z] 32)) := (Below.refl _ _).alloc (Nat.le_refl _) _; have HB := Lib.hid (hb2.trans (hb3.mono hb2.size)); have hT := hown.toks; clear hP hb2 hb3
 by_cases hz : z = 0
 ·subst hz
  rcases l with _ | ⟨t, _ | ⟨u, r⟩⟩
  ·have hl0 : (([] : List Tok).length : Int) = 0 := rfl
   clear hown hT; go_wp2; go_ret; exact ⟨by rw [<- HBB.out]; simp [alone3], HB.out⟩
  ·obtain ⟨b, off, rfl, hlt, c0, c1, c2⟩ := ToksAt.get hT (j := 0) (by simp)
   simp only [Nat.zero_mul, Nat.add_zero, List.getElem_cons_zero] at c0 c1 c2; clear hown hT
   by_cases hk : t.kind = k
   ·have hkb : (t.kind == k) = true := by rw [beq_iff_eq]; exact hk
    by_cases ht : t.text = s
    ·subst ht
     go_wp2; go_ret; exact ⟨by rw [<- HBB.out]; simp [alone3, hk], HB.out⟩
    ·have htb := str_ne ht
     go_wp2; go_ret; exact ⟨by rw [<- HBB.out]; simp [alone3, ht], HB.out⟩
   ·have hkb : (t.kind == k) = false := by rw [beq_eq_false_iff_ne]; exact hk
    go_wp2; go_ret; exact ⟨by rw [<- HBB.out]; simp [alone3, hk], HB.out⟩
  ·have hl2 : (((t :: u :: r).length : Int) == 1) = false := by rw [beq_eq_false_iff_ne]; simp only [List.length_cons]; omega
   clear hown hT; generalize (t :: u :: r).length = nl at *; go_wp2; go_ret; exact ⟨by rw [<- HBB.out]; simp [alone3], HB.out⟩
 ·have hzb : (z == 0) = false := by rw [beq_eq_false_iff_ne]; exact hz
  have HZ := Lib.hid hz; clear hz hown hT; go_wp2; go_ret; refine ⟨?_, HB.out⟩; rw [<- HBB.out]; rcases l with _ | ⟨t, _ | ⟨u, r⟩⟩ <;> simp [alone3, HZ.out]
end Go.Proofs.YthbhknfhmkhfgaaGreatDoor
namespace Go.Proofs.YthbhknfhmkhfgaaGreatDoor
set_option maxRecDepth 100000
set_option maxHeartbeats 20000000
theorem first_all : ∀ (l : Bs) (p : Nat) (t : Tok) (r : List Tok), (lexL l p).1 = t :: r -> t.text.size <= l.length /\ (t.text.size = l.length -> t.text = strL l /\ lexL l p = ([t], -1, 0))
 | [], p, t, r, h => by rw [lexL_nil] at h; cases h
 | c :: l, p, t, r, h => by
  cases hb : blankB c with
  | true =>
   rw [lexL_blank hb] at h; have := (first_all l (p + 1) t r h).1; exact ⟨by simp only [List.length_cons]; omega, fun e => by simp only [List.length_cons] at e; omega⟩
  | false =>
   cases ho : one1 (c :: l) with
   | bad o e => rw [lexL_bad hb ho] at h; cases h
   | tok k sz =>
    have hs := one1_size ho; rw [lexL_tok hb ho] at h ⊢; simp only [List.cons.injEq] at h; obtain ⟨rfl, hr⟩ := h; have hz : (strL ((c :: l).take sz)).size = sz := by rw [size_list, strL_list, List.length_take]; omega
    simp only [hz]; refine ⟨hs.2, fun e => ?_⟩; rw [e, List.take_length, List.drop_length, lexL_nil]; exact ⟨rfl, rfl⟩
theorem alone_first (s : ByteArray) (k : Int) : aloneB s k = match (lexL s.data.toList 0).1 with
  | [] => false
  | t :: _ => decide (t.kind = k) && decide (t.text.size = s.size) := by
 unfold aloneB
 cases h : (lexL s.data.toList 0).1 with
 | nil =>
  have : lexL s.data.toList 0 = ([], (lexL s.data.toList 0).2) := by rw [<- h]
  rw [this]
 | cons t r =>
  have hf := first_all s.data.toList 0 t r h; rw [<- size_list] at hf
  by_cases hz : t.text.size = s.size
  ·obtain ⟨h1, h2⟩ := hf.2 hz
   have h3 : strL s.data.toList = s := (strL_of s).symm; rw [h2]; simp [h1, h3]
  ·have hne : t.text ≠ s := fun e => hz (by rw [e])
   have : lexL s.data.toList 0 = (t :: r, (lexL s.data.toList 0).2) := by rw [<- h]
   rw [this]
   cases r with
   | nil => simp [hz, hne]
   | cons u r => simp [hz]
end Go.Proofs.YthbhknfhmkhfgaaGreatDoor
namespace Go.Proofs.YthbhknfhmkhfgaaGreatDoor
set_option maxRecDepth 100000
set_option maxHeartbeats 20000000
open Go.RowKit Go.Tab Go.Shelf
section
variable {P : Program} {b : Frame} {a : Act} {k : List Item} {cs : List Frame} {w : World} {Q : Exit -> Act -> World -> Prop} {F : Fence} {n : Nat}
theorem stepR_scope {c : Code} : step P (lone (b.atR a (.code (.scope c) :: k)) cs w) = .next (lone (b.atR a (.code c :: .inScope c :: k)) cs w) :=
 step_lone_go (by simp [stepG, stepG.exec, Frame.atR])
theorem stepR_inScope {c : Code} : step P (lone (b.atR a (.inScope c :: k)) cs w) = .next (lone (b.atR a k) cs w) :=
 step_lone_go (by simp [stepG, stepG.exec, Frame.atR])
theorem wpIn_scope_straight {c : Code} (h : c.wpIn F n P (Exit.noGoto Q) a w) : (Code.scope c).wpIn F n P Q a w := by
 intro b k cs hro hb hr; have h0 : (lone (b.atR a (.code (.scope c) :: k)) cs w).fenced P F := fenced_calm hb hr rfl; obtain ⟨e, a₁, w₁, hq, harr⟩ := h b (.inScope c :: k) cs hro hb hr
 cases e with
 | normal => exact ⟨.normal, a₁, w₁, hq, .head h0 stepR_scope (StepsIn.trans harr (.one (fenced_calm hb hr rfl) stepR_inScope))⟩
 | exit id =>
  have hx : exitTo id (.inScope c :: k) = exitTo id k := by simp [exitTo]
  exact ⟨.exit id, a₁, w₁, hq, fun k' hk => .head h0 stepR_scope (harr.1 k' (by rw [hx]; exact hk)),
   fun hr' hk => let ⟨k₁, h1, h2⟩ := harr.2 hr' (by rw [hx]; exact hk); ⟨k₁, h1, .head h0 stepR_scope h2⟩⟩
 | goto l => exact hq.elim
 | ret => exact ⟨_, a₁, w₁, hq, .of_steps (.one h0 stepR_scope) harr⟩
 | panic ch => exact ⟨_, a₁, w₁, hq, .of_steps (.one h0 stepR_scope) harr⟩
 | outgrown => exact ⟨_, a₁, w₁, hq, .of_steps (.one h0 stepR_scope) harr⟩
end
theorem roundIn_any {m m' : Nat} {P : Program} {l : Nat} {f : FuncId} {tmps : Array Value} {assign body : Code} {w : World} {R : Ending -> World -> Prop}
  (h : RoundIn Fence.wide m P l f tmps assign body w R) : RoundIn Fence.wide m' P l f tmps assign body w R := ⟨h.1, fun c cs _ => h.2 c cs (room_wide _)⟩
theorem yieldAt_any {m : Nat} (m' : Nat) {P : Program} {l : Nat} {args : Array Value} {W : World} {R : Ending -> World -> Prop} (h : YieldAt Fence.wide m P l args W R) : YieldAt Fence.wide m' P l args W R := by
 obtain ⟨fn, tmps, assign, body, hy, hR⟩ := h; exact ⟨fn, tmps, assign, body, hy, roundIn_any hR⟩
theorem wideN {k : Nat} : Fence.wide.depth.isSome = true -> 1 <= k := fun h => by simp [Fence.wide] at h
theorem grown_none {w w' : World} (h : Below w.heap.size w w') : w.grownBy w' none := ⟨h.os, h.tape, h.output, h.size, fun k hk _ => h.block k hk⟩
def KpA (A B : World) : Prop := A.heap.size <= B.heap.size /\ ∀ (k : Nat) (o : Obj), A.heap[k]? = some o -> o.isCells = true -> B.heap[k]? = some o
theorem KpA.grown {A B : World} {row : Option Nat} (hg : A.grownBy B row) (hr : ∀ r, row = some r -> ∃ o : Obj, A.heap[r]? = some o /\ o.isCells = false) : KpA A B :=
 ⟨hg.size, fun k o ho hc => (hg.block k (Array.getElem?_eq_some_iff.1 ho).1 (fun e => by
  obtain ⟨q, hq, hqc⟩ := hr k e.symm
  rw [ho] at hq; cases hq; rw [hc] at hqc; cases hqc)).trans ho⟩
theorem KpA.cells {A B : World} (h : KpA A B) {g : Nat} {cs : Array Value} {T : TypeId} (hc : Cells A g cs T) : Cells B g cs T := h.2 g _ hc rfl
attribute [local go_sem] Oper.semAt_some
def KpB (B : Nat) (w w' : World) : Prop := w.heap.size <= w'.heap.size /\ ∀ k, k < B -> w'.heap[k]? = w.heap[k]?
theorem KpB.trans {B : Nat} {A C D : World} (h : KpB B A C) (h2 : KpB B C D) : KpB B A D := ⟨Nat.le_trans h.1 h2.1, fun k hk => (h2.2 k hk).trans (h.2 k hk)⟩
theorem KpB.below {B : Nat} {w w' : World} (h : Below B w w') : KpB B w w' := ⟨h.size, h.block⟩
theorem KpB.put {B : Nat} {w0 : World} (hB : B <= w0.heap.size) (W : World) (l : Nat) (o o' : Obj) (hl : w0.heap.size <= l) (_ : W.heap[l]? = some o) (_ : o.isCells = false) (_ : o.isWalk = false) : KpB B W (W.putObj l o') :=
 ⟨(grownBy_putObj' W l o').size, fun k hk => World.putObj_heap_other (by omega)⟩
theorem KpB.cell {B : Nat} {w w' : World} (h : KpB B w w') {b : Nat} (hb : b < B) (off : Nat) : w'.cell? ⟨b, off, none⟩ = w.cell? ⟨b, off, none⟩ := cell_same (h.2 b hb) off
theorem LexT.keptB {w0 W : World} (h : LexT w0) (hk : KpB w0.heap.size w0 W) : LexT W :=
 ⟨fun j hj => (hk.cell (World.block_lt_of_cell? w0 _ (h.utf j hj)) j).trans (h.utf j hj), fun j hj => (hk.cell (World.block_lt_of_cell? w0 _ (h.steps j hj)) j).trans (h.steps j hj), fun j hj => (hk.cell (World.block_lt_of_cell? w0 _ (h.dbl j hj)) j).trans (h.dbl j hj), by
  obtain ⟨m, hm⟩ := h.mlen
  exact ⟨m, (hk.cell (World.block_lt_of_cell? w0 _ hm) 0).trans hm⟩⟩
theorem walkY_in (n : Nat) (l0 : Nat) (s : ByteArray) (hs : s.size <= 1048576) (w0 : World) (hT0 : LexT w0) (J Jx : List Tok -> World -> Prop)
  (hJb : ∀ p W W', J p W -> Below W.heap.size W W' -> J p W')
  (hY : ∀ (m : Nat) (pre : List Tok) (x : Tok) W, J pre W -> KpB w0.heap.size w0 W -> pre ++ [x] <+: (lexL s.data.toList 0).1 -> YieldAt Fence.wide m Tryz.prog l0 #[tokV x] W fun e W' => (e = .returned (.bool true) /\ J (pre ++ [x]) W' /\ KpB w0.heap.size W W') \/ (e = .returned (.bool false) /\ Jx (pre ++ [x]) W'))
  (W : World) (hW : KpB w0.heap.size w0 W) (h0 : J [] W) :
  CallsIn Fence.wide n Tryz.prog 35 #[.string s, .func (.yield l0) #[] #[]] W fun e W' => (∃ v, e = .returned v) /\ ((∃ ys, ys = (lexL s.data.toList 0).1 /\ J ys W') \/ (∃ pre, pre <+: (lexL s.data.toList 0).1 /\ Jx pre W')) := by
 refine callsIn_of_wp Tryz.func35 rfl trivial ?_ rfl; simp only [Tryz.ntmps35, List.size_toArray, List.length_cons, List.length_nil, Nat.reduceAdd, Nat.reduceSub, Array.replicate_succ, Array.replicate_zero, List.push_toArray, List.append_toArray, List.nil_append, List.cons_append]
 gi_wp2
 refine wpIn_scope_straight ?_
 gi_wp2
 refine wpIn_label ?_
 gi_wp2
 gi_loopw [4, 5, 6, 7, 8, 9, 10] (fun a e p _ _ _ _ wr => ∃ (k : Nat) (pre : List Tok), a = .int .i64 0 /\ e = .int .i64 0 /\ p = .int .i64 (k : Int) /\ k <= s.size /\ LexRest s.data.toList k pre /\ J pre wr /\ KpB w0.heap.size w0 wr) (fun _ _ p _ _ _ _ _ => s.size - (intOf p).toNat)
 case atStart => exact ⟨0, [], rfl, rfl, rfl, Nat.zero_le _, LexRest.zero _, h0, hW⟩
 case round =>
  obtain ⟨k, pre, rfl, rfl, rfl, hk, hR, hJ, hb⟩ := hrel
  by_cases hlt : k < s.size
  ·have hB := has_any ⟨#[32, 9, 13]⟩ (s[k]'hlt)
   rw [show (⟨#[32, 9, 13]⟩ : ByteArray).data.toList.contains (s[k]'hlt) = blankB (s[k]'hlt) from rfl] at hB; have hkl : k < s.data.toList.length := by rw [<- size_list]; exact hlt
   have hRl := hR.len; rw [<- size_list] at hRl; have HR := Lib.hid hR; clear hR
   cases hb1 : blankB (s[k]'hlt) with
   | true =>
    rw [hb1] at hB; have HR2 := Lib.hid (HR.out.blank hkl hb1); clear HR hb1 hY
    gi_wp2
    refine ⟨trivial, wideN, (callsIn_wide.2 (hB _)).mono ?_⟩; rintro _ _ ⟨⟨i, rfl, hi⟩, rfl⟩
    gi_wp2
    refine ⟨⟨k + 1, pre, rfl, rfl, by go_num, by omega, HR2.out, hJ, hb⟩, ?_⟩
    simp [intOf]; omega
   | false =>
    rw [hb1] at hB; have hN := fun W h => next_any (s.extract k s.size) W h (by rw [ByteArray.size_extract]; omega) (by rw [ByteArray.size_extract]; omega)
    rw [ext_drop] at hN; have hHB := Lib.hid hb1
    cases ho : one1 (s.data.toList.drop k) with
    | bad o e =>
     have HD := Lib.hid (HR.out.bad hkl hb1 ho); have hne : (e != 0) = true := by simpa using one1_err ho
     have hof := one1_off ho; rw [List.length_drop, <- size_list] at hof; rw [ho] at hN; simp only [lrV] at hN; clear HR hb1 ho hY
     gi_wp2
     refine ⟨trivial, wideN, (callsIn_wide.2 (hB _)).mono ?_⟩; rintro _ _ ⟨⟨i, rfl, hi⟩, rfl⟩
     gi_wp2
     refine ⟨trivial, wideN, (callsIn_wide.2 (hN _ (hT0.keptB hb))).mono ?_⟩; rintro _ w2 ⟨rfl, hb2⟩; have hJ2 := hJb _ _ _ hJ hb2; clear hJ
     gi_wp2
     rw [Exit.noGoto_ret]; refine bodyPost_ret (v := .tuple #[.int .i64 ((k : Int) + o), .int .i64 e]) (by simp [results, Tryz.results35, go_sem]) rfl ?_
     exact ⟨⟨_, rfl⟩, .inl ⟨_, by rw [HD.out], hJ2⟩⟩
    | tok kd sz =>
     have HD := Lib.hid (HR.out.tok hkl hb1 ho); have hEx : strL ((s.data.toList.drop k).take sz) = s.extract k (k + sz) := str_ext (by rw [ext_list, strL_list, List.drop_take]; congr 1; omega)
     have hsz := one1_size ho; rw [List.length_drop, <- size_list] at hsz; rw [ho] at hN; simp only [lrV] at hN; rw [hEx] at HD
     have hpre : pre ++ [⟨(kd : Nat), s.extract k (k + sz), (k : Nat)⟩] <+: (lexL s.data.toList 0).1 := by
      have := HD.out; unfold LexRest at this; rw [this]; exact List.prefix_append _ _
     clear HR hb1 ho; have hYx := fun w2 hJ2 hk2 => hY (n - 1) pre ⟨(kd : Nat), s.extract k (k + sz), (k : Nat)⟩ w2 hJ2 hk2 hpre; have HP := Lib.hid hpre; clear hY hpre; simp only [tokV] at hYx
     gi_wp2
     refine ⟨trivial, wideN, (callsIn_wide.2 (hB _)).mono ?_⟩; rintro _ _ ⟨⟨i, rfl, hi⟩, rfl⟩
     gi_wp2
     refine ⟨trivial, wideN, (callsIn_wide.2 (hN _ (hT0.keptB hb))).mono ?_⟩; rintro _ w2 ⟨rfl, hb2⟩; have hJ2 := hJb _ _ _ hJ hb2; have hk2 := hb.trans (KpB.below (hb2.mono hb.1)); obtain ⟨fn, tmps, assign, body, hy, hRR⟩ := hYx _ hJ2 hk2; clear hYx
     gi_wp2
     refine ⟨wideN, hRR.mono ?_⟩; rintro e W3 (⟨rfl, hJ3, hk3⟩ | ⟨rfl, hJx3⟩)
     ·gi_wp2
      refine ⟨⟨k + sz, _, rfl, rfl, by go_num, by omega, HD.out, hJ3, hk2.trans hk3⟩, ?_⟩
      simp [intOf]; omega
     ·gi_wp2
      rw [Exit.noGoto_ret]; refine bodyPost_ret (v := .tuple #[.int .i64 0, .int .i64 0]) (by simp [results, Tryz.results35, go_sem]) rfl ?_
      exact ⟨⟨_, rfl⟩, .inr ⟨_, HP.out, hJx3⟩⟩
  ·obtain rfl : k = s.size := by omega
   have HD := Lib.hid (hR.done (size_list s)); clear hR hY
   gi_wp2
   rw [Exit.noGoto_ret]; refine bodyPost_ret (v := .tuple #[.int .i64 0, .int .i64 0]) (by simp [results, Tryz.results35, go_sem]) rfl ?_
   exact ⟨⟨_, rfl⟩, .inl ⟨_, by rw [HD.out], hJ⟩⟩
theorem lAll_any (s : ByteArray) (w : World) :
  Calls Tryz.prog 98 #[.string s] w fun e w' => e = .returned (.func (.func 122) #[] #[.pointer (some ⟨w.heap.size, 0, none⟩)]) /\ w' = w.alloc (.cells #[.string s] 9) := by
 go_enter Tryz.func98, Tryz.ntmps98; go_wp2; go_ret; exact ⟨rfl, rfl⟩
theorem lAll1_in (n : Nat) (l0 Bn : Nat) (s : ByteArray) (hs : s.size <= 1048576) (w0 : World) (hBn : w0.cell? ⟨Bn, 0, none⟩ = some (.string s)) (hT0 : LexT w0) (J Jx : List Tok -> World -> Prop)
  (hJb : ∀ p W W', J p W -> Below W.heap.size W W' -> J p W')
  (hY : ∀ (m : Nat) (pre : List Tok) (x : Tok) W, J pre W -> KpB w0.heap.size w0 W -> pre ++ [x] <+: (lexL s.data.toList 0).1 -> YieldAt Fence.wide m Tryz.prog l0 #[tokV x] W fun e W' => (e = .returned (.bool true) /\ J (pre ++ [x]) W' /\ KpB w0.heap.size W W') \/ (e = .returned (.bool false) /\ Jx (pre ++ [x]) W'))
  (W : World) (hW : KpB w0.heap.size w0 W) (h0 : J [] W) :
  CallsIn Fence.wide n Tryz.prog 122 #[.func (.yield l0) #[] #[], .pointer (some ⟨Bn, 0, none⟩)] W fun e W' => (∃ v, e = .returned v) /\ ((∃ ys, ys = (lexL s.data.toList 0).1 /\ J ys W') \/ (∃ pre, pre <+: (lexL s.data.toList 0).1 /\ Jx pre W')) := by
 have hc := (hW.cell (World.block_lt_of_cell? w0 _ hBn) 0).trans hBn; have hw := walkY_in (n - 1) l0 s hs w0 hT0 J Jx hJb hY W hW h0; clear hY hJb h0; refine callsIn_of_wp Tryz.func122 rfl trivial ?_ rfl; simp only [Tryz.ntmps122, List.size_toArray, List.length_cons, List.length_nil, Nat.reduceAdd, Nat.reduceSub, Array.replicate_succ, Array.replicate_zero, List.push_toArray, List.append_toArray, List.nil_append, List.cons_append]
 gi_wp2
 refine ⟨trivial, wideN, hw.mono ?_⟩; rintro e w2 ⟨⟨v, rfl⟩, hx⟩
 gi_wp2
 refine bodyPost_end (results_none rfl _ _ _) rfl ?_; exact ⟨⟨_, rfl⟩, hx⟩
section
variable {F : Fence} {n : Nat} {P : Program}
def SeqGood {α : Type} (F : Fence) (n : Nat) (P : Program) (g : Nat) (lb : Array Value) (encs : α -> Array Value) (Kp : World -> World -> Prop) (Gd : α -> World -> Prop) (S Sp : List α -> Prop) (N : Nat) (w : World) : Prop :=
 ∀ (l : Nat) (J Jx : List α -> World -> Prop) (W : World), Below w.heap.size w W -> AbidesFrom W.heap.size J -> AbidesFrom W.heap.size Jx ->
  (∀ pre x W1, J pre W1 -> Gd x W1 -> pre.length < N -> YieldAt F (n - 1) P l (encs x) W1 fun e W' =>
   (e = .returned (.bool true) /\ J (pre ++ [x]) W' /\ Kp W1 W') \/ (e = .returned (.bool false) /\ Jx (pre ++ [x]) W')) ->
  J [] W ->
  CallsIn F n P g (#[.func (.yield l) #[] #[]] ++ lb) W fun e W' => (∃ v, e = .returned v) /\ ((∃ xs, S xs /\ J xs W') \/ (∃ pre, Sp pre /\ Jx pre W'))
theorem wpIn_rangeFunc_good {α : Type} {g : Operand} {ps : Array Tmp} {assign body : Code} {Q : Exit -> Act -> World -> Prop} {a : Act} {w : World}
  (hro : F.round = none) (h1 : 1 <= n) {gf : Nat} {lb : Array Value} (hg : a.eval g = .func (.func gf) #[] lb) (hFg : F.fn gf) (eg : ∀ args w, (callFunc gf args).run P w = .ok (.enter gf args) w)
  {encs : α -> Array Value} {Kp : World -> World -> Prop} {Gd : α -> World -> Prop} {S Sp : List α -> Prop} {N : Nat} {w0 : World} (hseq : SeqGood F (n - 1) P gf lb encs Kp Gd S Sp N w0)
  (hKt : ∀ {A B C : World}, Kp A B -> Kp B C -> Kp A C) (hKb : ∀ (W : World) (l : Nat) (o o' : Obj), w.heap.size <= l -> W.heap[l]? = some o -> o.isCells = false -> o.isWalk = false -> Kp W (W.putObj l o')) (hb0 : Below w0.heap.size w0 w) (hps : ∀ x, (encs x).size = ps.size)
  (I : List α -> World -> Prop) (Ix : Code -> List α -> World -> Prop) (hI : OwnFrom w.heap.size I) (hIx : ∀ c, OwnFrom w.heap.size (Ix c)) (h0 : I [] w) (Ax : α -> Act -> World -> Prop) (hAx : ∀ x a', OwnFrom w.heap.size (fun (_ : Unit) W => Ax x a' W))
  (hassign : ∀ (l : Nat) (pre : List α) (x : α) (W : World) (K : Act -> World -> Prop), I pre W -> Gd x W -> (∀ a' W', KeepsFrom w.heap.size W W' -> Kp W W' -> I pre W' -> Ax x a' W' -> K a' W') ->
   assign.wpIn (F.inRound l) (n - 1 - 1) P (Exit.then K (fun _ _ _ => False)) { tmps := (ps.zip (encs x)).foldl (fun t (p, v) => t.setIfInBounds p v) a.tmps, defers := [] } W)
  (hbody : ∀ (l : Nat) (pre : List α) (x : α) (a' : Act) (W : World), w.heap.size <= l -> I pre W -> Ax x a' W -> pre.length < N -> body.wpIn (F.inRound l) (n - 1 - 1) P (ownPostG w.heap.size Kp I Ix (pre ++ [x]) W) a' W)
  (hdone : ∀ (D : Nat) (xs : List α) (W : World), w.heap.size <= D -> S xs -> I xs W -> W.heap[D]? = some (.deferred (some [])) -> Q .normal { a with defers := { target := .collected D, args := #[] } :: a.defers } W)
  (hstop : ∀ (D : Nat) (c : Code) (pre : List α) (W : World), w.heap.size <= D -> Sp pre -> Ix c pre W -> W.heap[D]? = some (.deferred (some [])) -> c.wpIn F n P Q { a with defers := { target := .collected D, args := #[] } :: a.defers } W) :
  (Code.rangeFunc g ps assign body).wpIn F n P Q a w := by
 refine wpIn_rangeFunc ?_; intro fn hfn; rw [hro]
 -- the loop's record at its two places, and where they lie
 let rec' : LoopState -> Option Code -> Loop := fun st pe => { state := st, pending := pe, fn, tmps := a.tmps, params := ps, assign, body, defers := w.heap.size }
 obtain ⟨R, hR⟩ : ∃ R : LoopState -> Option Code -> Loop, R = rec' := ⟨_, rfl⟩; obtain ⟨V, hV⟩ : ∃ V, V = (w.alloc (.deferred (some []))).alloc (.loop (R .ready none)) := ⟨_, rfl⟩
 have vL : V.heap[w.heap.size + 1]? = some (.loop (R .ready none)) := by
  have h := World.alloc_heap_new (w.alloc (.deferred (some []))) (.loop (R .ready none)); rw [World.size_alloc] at h; rw [hV]; exact h
 have vD : V.heap[w.heap.size]? = some (.deferred (some [])) := by
  rw [hV]; exact (Below.heap_alloc _ _ _ (by simp)).trans (World.alloc_heap_new w _)
 have vI : I [] V := by rw [hV]; exact hI.alloc _ (hI.alloc _ h0)
 have vB : Below w0.heap.size w0 V := by
  rw [hV]; exact hb0.trans ((((Below.refl _ w).alloc (Nat.le_refl _) _).alloc (by simp) _).mono hb0.size)
 have vz : V.heap.size = w.heap.size + 2 := by rw [hV]; simp
 refine ⟨w.heap.size + 1, [{ target := .collected w.heap.size, args := #[] }], V, { target := .fn (.func gf) lb, args := #[.func (.yield (w.heap.size + 1)) #[] #[]] }, V, gf,
  #[.func (.yield (w.heap.size + 1)) #[] #[]] ++ lb, V, ?_, ?_, ?_, ?_, fun _ => h1, ?_⟩
 ·rw [hV, hR]; exact run_enterLoop_outer _ _ _ _ _
 ·simp only [resolve, hg]
  simp [go_sem]
 ·intro f' hf'; simp [Target.leads] at hf'; subst hf'; exact hFg
 ·simp [invoke, go_sem, eg]
 have far : ∀ {A : World} {row : Option Nat}, (∀ r, row = some r -> V.heap.size <= r /\ ∃ o : Obj, A.heap[r]? = some o /\ o.isWalk = true) -> (∀ r, row = some r -> w.heap.size <= r /\ ∃ o : Obj, A.heap[r]? = some o /\ o.isCells = false) :=
  fun hr r e => by obtain ⟨hB, o, ho, hw⟩ := hr r e; exact ⟨by omega, o, ho, Obj.not_cells_of_walk hw⟩
 let J : List α -> World -> Prop := fun pre W => I pre W /\ W.heap[w.heap.size + 1]? = some (.loop (R .ready none)) /\ W.heap[w.heap.size]? = some (.deferred (some []))
 let Jx : List α -> World -> Prop := fun pre W => ∃ c, Ix c pre W /\ W.heap[w.heap.size + 1]? = some (.loop (R .done (some c))) /\ W.heap[w.heap.size]? = some (.deferred (some []))
 have aJ : AbidesFrom V.heap.size J := fun s A B row hs hg' hr =>
  ⟨hI s A B row hs.1 hg' (far hr), (grownBy_keeps hg' (fun r e => (hr r e).2) hs.2.1 rfl).trans hs.2.1, (grownBy_keeps hg' (fun r e => (hr r e).2) hs.2.2 rfl).trans hs.2.2⟩
 have aJx : AbidesFrom V.heap.size Jx := fun s A B row hs hg' hr => by
  obtain ⟨c, hc, hl, hk⟩ := hs; exact ⟨c, hIx c s A B row hc hg' (far hr), (grownBy_keeps hg' (fun r e => (hr r e).2) hl rfl).trans hl, (grownBy_keeps hg' (fun r e => (hr r e).2) hk rfl).trans hk⟩
 refine (hseq (w.heap.size + 1) J Jx V vB aJ aJx ?_ ⟨vI, vL, vD⟩).mono ?_
 ·rintro pre x W ⟨hi, hl, hk⟩ hgd hlen
  have hy := run_yield (P := P) (args := encs x) hl (by rw [hR]; exact hps x)
  rw [hR] at hy; refine ⟨fn, _, assign, body, hy, roundIn_of_wpIn hfn (hassign _ pre x W _ hi hgd ?_)⟩; intro a' U hkf hkp hiU haU; have uL := (hkf.same _ _ (by omega) hl rfl)
  have uD := (hkf.same _ _ (Nat.le_refl _) hk rfl); have ult : w.heap.size + 1 < U.heap.size := (Array.getElem?_eq_some_iff.1 uL).1; refine ⟨_, run_beginRound uL (by rw [hR]), ?_⟩
  obtain ⟨U2, hU2⟩ : ∃ U2, U2 = U.putObj (w.heap.size + 1) (.loop { R .ready none with state := .busy }) := ⟨_, rfl⟩
  have u2L : U2.heap[w.heap.size + 1]? = some (.loop { R .ready none with state := .busy }) := by rw [hU2]; exact World.putObj_heap_same ult
  have u2D : U2.heap[w.heap.size]? = some (.deferred (some [])) := by rw [hU2]; exact (World.putObj_heap_other (by omega)).trans uD
  have u2K : Kp U U2 := by rw [hU2]; exact hKb _ _ _ _ (by omega) uL rfl rfl
  have u2I : I pre U2 := by rw [hU2]; exact hI.putObj _ hiU (by omega) uL rfl
  have u2A : Ax x a' U2 := by rw [hU2]; exact (hAx x a').putObj (s := ()) _ haU (by omega) uL rfl
  rw [<- hU2]; refine wpIn_mono (hbody _ pre x a' U2 (by omega) u2I u2A hlen) ?_
  have fin : ∀ (jump : Option Code) (Z : World), KeepsFrom w.heap.size U2 Z ->
    (Instr.endRound (w.heap.size + 1) jump).run P Z = .ok (.bool jump.isNone) (Z.putObj (w.heap.size + 1) (.loop (R (if jump.isNone then .ready else .done) jump))) /\
    Z.heap[w.heap.size + 1]? = some (.loop { R .ready none with state := .busy }) /\
    (Z.putObj (w.heap.size + 1) (.loop (R (if jump.isNone then .ready else .done) jump))).heap[w.heap.size + 1]? = some (.loop (R (if jump.isNone then .ready else .done) jump)) /\
    (Z.putObj (w.heap.size + 1) (.loop (R (if jump.isNone then .ready else .done) jump))).heap[w.heap.size]? = some (.deferred (some [])) := fun jump Z hz => by
   have zl := hz.same _ _ (by omega) u2L rfl
   have h := run_endRound (P := P) jump zl; rw [hR] at h ⊢; exact ⟨h, by rw [hR] at zl; exact zl, World.putObj_heap_same (Array.getElem?_eq_some_iff.1 zl).1, (World.putObj_heap_other (by omega)).trans (hz.same _ _ (Nat.le_refl _) u2D rfl)⟩
  have stop : ∀ (c : Code) (Z : World), KeepsFrom w.heap.size U2 Z -> Ix c (pre ++ [x]) Z -> ∃ v Z', (Instr.endRound (w.heap.size + 1) (some c)).run P Z = .ok v Z' /\
    ((Ending.returned v = .returned (.bool true) /\ J (pre ++ [x]) Z' /\ Kp W Z') \/ (Ending.returned v = .returned (.bool false) /\ Jx (pre ++ [x]) Z')) := fun c Z hz hi3 => by
   obtain ⟨hr, zl, zl4, zk4⟩ := fin (some c) Z hz; exact ⟨_, _, hr, .inr ⟨rfl, c, (hIx _).putObj _ hi3 (by omega) zl rfl, zl4, zk4⟩⟩
  rintro e a3 Z hp
  cases e with
  | normal =>
   obtain ⟨hz, hkp3, hi3⟩ := hp; obtain ⟨hr, zl, zl4, zk4⟩ := fin none Z hz; exact ⟨_, _, hr, .inl ⟨rfl, ⟨hI.putObj _ hi3 (by omega) zl rfl, zl4, zk4⟩, hKt hkp (hKt (hKt u2K hkp3) (hKb _ _ _ _ (by omega) zl rfl rfl))⟩⟩
  | ret => exact stop _ Z hp.1 hp.2
  | exit id => exact stop _ Z hp.1 hp.2
  | goto t => exact stop _ Z hp.1 hp.2
  | panic ch => exact hp.elim
  | outgrown => exact hp.elim
 ·rintro e Z ⟨⟨v, rfl⟩, (⟨xs, hS, hi, hl, hk⟩ | ⟨pre, hSp, c, hi, hl, hk⟩)⟩
  ·exact ⟨none, _, by have h := run_endLoop (P := P) hl (by rw [hR]; simp [rec']); rw [hR] at h; exact h, hdone _ xs _ (Nat.le_refl _) hS (hI.putObj _ hi (by omega) hl rfl) ((World.putObj_heap_other (by omega)).trans hk)⟩
  ·exact ⟨some c, _, by have h := run_endLoop (P := P) hl (by rw [hR]; simp [rec']); rw [hR] at h; exact h, hstop _ c pre _ (Nat.le_refl _) hSp ((hIx c).putObj _ hi (by omega) hl rfl) ((World.putObj_heap_other (by omega)).trans hk)⟩
end
attribute [local go_sem] Oper.semAt_some
theorem lAll_good (n Bn : Nat) (s : ByteArray) (hs : s.size <= 1048576) (w : World) (hc : w.cell? ⟨Bn, 0, none⟩ = some (.string s)) (hT : LexT w) :
  SeqGood Fence.wide n Tryz.prog 122 #[.pointer (some ⟨Bn, 0, none⟩)] (fun x : Tok => #[tokV x]) (KpB w.heap.size) (fun _ _ => True) (fun ys => ys = (lexL s.data.toList 0).1) (fun pre => pre <+: (lexL s.data.toList 0).1) (lexL s.data.toList 0).1.length w := fun l0 J Jx W hW aJ _ hY h0 =>
 lAll1_in n l0 Bn s hs w hc hT J Jx (fun p A B hs hbl => aJ p A B none hs (grown_none hbl) (fun r e => by cases e))
  (fun m pre x W1 hj _ hp => yieldAt_any m (hY pre x W1 hj trivial (by have := hp.length_le; simp at this; omega))) W (KpB.below hW) h0
theorem three_new' {w w2 : World} {c1 c2 c3 : Array Value} {T1 T2 T3 : TypeId} (hb : Below (((w.alloc (.cells c1 T1)).alloc (.cells c2 T2)).alloc (.cells c3 T3)).heap.size (((w.alloc (.cells c1 T1)).alloc (.cells c2 T2)).alloc (.cells c3 T3)) w2) :
  Cells w2 w.heap.size c1 T1 /\ Cells w2 (w.heap.size + 1) c2 T2 /\ Cells w2 (w.heap.size + 1 + 1) c3 T3 /\ Below w.heap.size w w2 := by
 have hs := hb.size; simp only [World.size_alloc] at hs; have h0 : Below w.heap.size w (((w.alloc (.cells c1 T1)).alloc (.cells c2 T2)).alloc (.cells c3 T3)) := by (repeat' first | with_reducible refine Below.setCell ?_ ?_ _ | with_reducible refine Below.alloc ?_ ?_ _ | with_reducible refine Below.drew ?_ | with_reducible refine below_drewN ?_ _ | with_reducible assumption | with_reducible exact Below.refl _ _ | (simp only [World.size_alloc, World.size_setCell, World.size_drew]; first | done | omega) | omega)
 refine ⟨(((Cells.new w c1 T1).alloc _).alloc _).below hb (by simp; omega), ?_, ?_, h0.trans (hb.mono h0.size)⟩
 ·have h := ((Cells.new (w.alloc (.cells c1 T1)) c2 T2).alloc (.cells c3 T3)).below hb (by simp)
  simpa using h
 ·have h := (Cells.new ((w.alloc (.cells c1 T1)).alloc (.cells c2 T2)) c3 T3).below hb (by simp)
  simpa using h
theorem keeps_set {w w' : World} (h : Below w.heap.size w w') (a : Addr) (v : Value) (B : Nat) : KeepsFrom B w (w'.setCell a v) :=
 ((KeepsOthers.of_grownBy (grown_none h) (fun j o e => by cases e)).trans (KeepsOthers.setCell _ _ _)).from B
theorem int_dec (n : Nat) (k : Nat) : ((n : Int) == (k : Int)) = decide (n = k) := by
 by_cases h : n = k
 ·subst h; simp
 ·rw [decide_eq_false h, beq_eq_false_iff_ne]; omega
def firB (l : List Tok) (k : Int) (n : Nat) : Bool := match l with
 | [] => false
 | t :: _ => decide (t.kind = k) && decide (t.text.size = n)
theorem alone_any : AloneC := by
 intro s k w hT hs; refine (callsIn_wide (n := 9)).1 ?_; rw [alone_first]; obtain ⟨L, hL⟩ : ∃ L, L = (lexL s.data.toList 0).1 := ⟨_, rfl⟩; have hgood := fun n Bn w hc hT => lAll_good n Bn s (by omega) w hc hT
 rw [<- hL] at hgood ⊢; clear hL; show CallsIn _ _ _ _ _ _ (fun e w' => e = .returned (.bool (firB L k s.size)) /\ Below w.heap.size w w'); refine callsIn_of_wp_marks Tryz.func64 rfl trivial ?_ rfl; simp only [Tryz.ntmps64, List.size_toArray, List.length_cons, List.length_nil, Nat.reduceAdd, Nat.reduceSub, Array.replicate_succ, Array.replicate_zero, List.push_toArray, List.append_toArray, List.nil_append, List.cons_append]; have HA := Lib.hid (lAll_any s (((w.alloc (.cells #[.string s] 9)).alloc (.cells #[.int .i64 k] 3)).alloc (.cells #[.bool false] 4)))
 gi_wp2
 refine ⟨trivial, (callsIn_wide.2 HA.out).mono ?_⟩; rintro e w1 ⟨rfl, hw1⟩
 have hb1 : Below (((w.alloc (.cells #[.string s] 9)).alloc (.cells #[.int .i64 k] 3)).alloc (.cells #[.bool false] 4)).heap.size (((w.alloc (.cells #[.string s] 9)).alloc (.cells #[.int .i64 k] 3)).alloc (.cells #[.bool false] 4)) w1 := by
  rw [hw1]; exact (Below.refl _ _).alloc (Nat.le_refl _) _
 obtain ⟨k0, k1, k2, hB0⟩ := three_new' hb1; have hz : w1.heap.size = w.heap.size + 4 := by rw [hw1]; simp
 have hcB : w1.cell? ⟨w.heap.size + 3, 0, none⟩ = some (.string s) := by
  have h := World.cell?_alloc_new (w := ((w.alloc (.cells #[.string s] 9)).alloc (.cells #[.int .i64 k] 3)).alloc (.cells #[.bool false] 4)) #[.string s] 9 0; simp only [World.size_alloc] at h; rw [hw1]; exact h
 have hT1 := hT.below hB0; clear HA hw1 hb1; simp only [World.size_alloc]; have hneq : ∀ W, Sem.run Tryz.prog (binOp .neq 113 (Value.func (Fn.func 122) #[] #[Value.pointer (some { block := w.heap.size + 3, off := 0 })]) Value.nilFunc) W = .ok (.bool true) W := fun W => by rfl
 gi_wp2
 obtain ⟨I, hI⟩ : ∃ I : List Tok -> World -> Prop, I = (fun pre W => w1.heap.size <= W.heap.size /\ pre = [] /\ Cells W w.heap.size #[.string s] 9 /\ Cells W (w.heap.size + 1) #[.int .i64 k] 3 /\ Cells W (w.heap.size + 1 + 1) #[.bool false] 4 /\ Below w.heap.size w W) := ⟨_, rfl⟩; obtain ⟨Ix, hIx⟩ : ∃ Ix : Code -> List Tok -> World -> Prop, Ix = (fun c pre W => ∃ x : Tok, pre = [x] /\ c = .ret /\ Cells W (w.heap.size + 1 + 1) #[.bool (decide (x.kind = k) && decide (x.text.size = s.size))] 4 /\ Below w.heap.size w W) := ⟨_, rfl⟩
 have hIown : OwnFrom w1.heap.size I := by
  subst hI; intro pre U U' row ⟨q0, q1, q2, q3, q4, q5⟩ hg hr; have hk := KpA.grown hg (fun r e => (hr r e).2); exact ⟨Nat.le_trans q0 hg.size, q1, hk.cells q2, hk.cells q3, hk.cells q4, q5.grown hg q5.size (fun j hj => by have := (hr j hj).1; omega)⟩
 have hIxown : ∀ c, OwnFrom w1.heap.size (Ix c) := by
  subst hIx; intro c pre U U' row ⟨x, q1, q2, q3, q4⟩ hg hr; have hk := KpA.grown hg (fun r e => (hr r e).2); exact ⟨x, q1, q2, hk.cells q3, q4.grown hg q4.size (fun j hj => by have := (hr j hj).1; omega)⟩
 have HI := Lib.hid hI; have HIx := Lib.hid hIx; clear hI hIx
 refine wpIn_rangeFunc_good rfl (by omega) (gf := 122) (lb := #[.pointer (some ⟨w.heap.size + 1 + 1 + 1, 0, none⟩)]) rfl trivial (enters_of Tryz.func122 (by kernel_rfl) rfl)
  (hgood _ _ w1 hcB hT1) KpB.trans (KpB.put (Nat.le_refl _)) (Below.refl _ _) (fun _ => rfl)
  I Ix hIown hIxown (by rw [HI.out]; exact ⟨Nat.le_refl _, rfl, k0, k1, k2, hB0⟩)
  (fun x a' W => ∃ pX : Nat, a' = { tmps := #[.string s, .int .i64 k, .pointer (some ⟨w.heap.size, 0, none⟩), .pointer (some ⟨w.heap.size + 1, 0, none⟩), .pointer (some ⟨w.heap.size + 1 + 1, 0, none⟩), .pointer (some ⟨pX, 0, none⟩), .string s, .func (.func 122) #[] #[.pointer (some ⟨w.heap.size + 1 + 1 + 1, 0, none⟩)], tokV x, undef, undef, undef, undef, undef, undef, undef, undef, undef, undef, undef, undef], defers := [] } /\ Cells W pX #[.int .i64 x.kind, .string x.text, .int .i64 x.pos] 36)
  (fun x a' _ U U' row ⟨pX, q1, q2⟩ hg hr => ⟨pX, q1, (KpA.grown hg (fun r e => (hr r e).2)).cells q2⟩) ?assign ?body ?done ?stop
 case assign =>
  rintro l pre ⟨xk, xt, xp⟩ W K hI2 - hK; simp only [tokV, List.size_toArray, List.length_cons, List.length_nil]
  gi_wp2
  exact hK _ _ ((KeepsOthers.alloc W _).from _) (KpB.below ((Below.refl _ W).alloc (by have h := hI2; rw [HI.out] at h; exact h.1) _)) (hIown.alloc _ hI2) ⟨W.heap.size, rfl, Cells.new W _ _⟩
 case body =>
  rintro l pre ⟨xk, xt, xp⟩ a' W hl hI2 ⟨pX, rfl, hcx⟩ hlt; rw [HI.out] at hI2; obtain ⟨-, rfl, q0, q1, q2, qb⟩ := hI2; have hbz := qb.size; have HQ := Lib.hid (And.intro q2 qb); have q0c0 := q0.cell 0 _ rfl; have q0f0 := q0.frozen 0; have q1c0 := q1.cell 0 _ rfl; have q1f0 := q1.frozen 0; have q2c0 := q2.cell 0 _ rfl; have q2f0 := q2.frozen 0; have hcxc0 := hcx.cell 0 _ rfl; have hcxf0 := hcx.frozen 0; have hcxc1 := hcx.cell 1 _ rfl; have hcxf1 := hcx.frozen 1; have hcxc2 := hcx.cell 2 _ rfl; have hcxf2 := hcx.frozen 2
  have ek : (xk == k) = decide (xk = k) := by
   by_cases h : xk = k
   ·subst h; simp
   ·rw [decide_eq_false h]; simpa using h
  have et : ((xt.size : Int) == (s.size : Int)) = decide (xt.size = s.size) := int_dec xt.size s.size; have hbelow := fun b => (Below.refl w.heap.size W).setCell (p := ⟨w.heap.size + 1 + 1, 0, none⟩) (by show w.heap.size <= w.heap.size + 1 + 1; omega) (.bool b)
  have hkeep := fun b => keeps_set (Below.refl W.heap.size W) ⟨w.heap.size + 1 + 1, 0, none⟩ (.bool b) (w.heap.size + 4)
  have hfin : ∀ b, b = (decide (xk = k) && decide (xt.size = s.size)) -> Ix .ret ([] ++ [⟨xk, xt, xp⟩]) (W.setCell ⟨w.heap.size + 1 + 1, 0, none⟩ (.bool b)) := fun b hb => by
   rw [HIx.out]; exact ⟨⟨xk, xt, xp⟩, rfl, rfl, by rw [<- hb]; exact HQ.out.1.setI 0 (.bool b), HQ.out.2.trans (hbelow b)⟩
  have HF := Lib.hid hfin; have HKp := Lib.hid hkeep; clear q0 q1 q2 qb hcx hfin hkeep hbelow; generalize decide (xk = k) = bk at *; generalize decide (xt.size = s.size) = bt at *; cases bk <;> cases bt
  all_goals
   gi_wp2
   exact ⟨HKp.out _, HF.out _ rfl⟩
 case done =>
  rintro D xs W hD hS hI2 hK; subst hS; rw [HI.out] at hI2; obtain ⟨-, rfl, q0, q1, q2, qb⟩ := hI2; clear hgood k0 k1 k2 hB0 hcB hT1 hneq hIown hIxown HI HIx; have q2c0 := q2.cell 0 _ rfl; have q2f0 := q2.frozen 0
  gi_wp2
  have hK2 : (W.setCell ⟨w.heap.size + 1 + 1, 0, none⟩ (.bool false)).heap[D]? = some (.deferred (some [])) := (Below.heap_setCell _ _ _ _ (by show D ≠ w.heap.size + 1 + 1; omega)).trans hK
  have hcl : ((W.setCell ⟨w.heap.size + 1 + 1, 0, none⟩ (.bool false)).putObj D (.deferred none)).cell? ⟨w.heap.size + 1 + 1, 0, none⟩ = some (.bool false) :=
   Cells.cell (cs := #[.bool false]) (t := 4) ((World.putObj_heap_other (by omega)).trans (q2.setI 0 (.bool false))) 0 _ rfl
  have hs1 : Below w.heap.size w (W.setCell ⟨w.heap.size + 1 + 1, 0, none⟩ (.bool false)) := qb.setCell (by show w.heap.size <= w.heap.size + 1 + 1; omega) _
  have HBE := Lib.hid (hs1.trans (belowK_b (w := w) (Nat.le_refl _) _ D _ (.deferred none) (by omega) hK2 rfl rfl))
  refine ⟨by simp, .inl ⟨_, _, rfl, run_takeDeferred hK2, ?_⟩⟩
  clear q0 q1 q2 qb hK hK2 q2c0 q2f0 hs1; exact ⟨.bool false, by simp [results, Tryz.results64, go_sem, hcl], rfl, HBE.out⟩
 case stop =>
  rintro D c pre W hD hpre hx hK; rw [HIx.out] at hx; obtain ⟨x, rfl, rfl, q2, qb⟩ := hx; obtain ⟨more, hmore⟩ := hpre; have hR : firB L k s.size = (decide (x.kind = k) && decide (x.text.size = s.size)) := by rw [<- hmore]; rfl
  have HBE := Lib.hid (qb.trans (belowK_b (w := w) (Nat.le_refl _) _ D _ (.deferred none) (by omega) hK rfl rfl))
  generalize (decide (x.kind = k) && decide (x.text.size = s.size)) = bb at *; have HR := Lib.hid hR
  have hcl : (W.putObj D (.deferred none)).cell? ⟨w.heap.size + 1 + 1, 0, none⟩ = some (.bool bb) :=
   Cells.cell (cs := #[.bool bb]) (t := 4) ((World.putObj_heap_other (by omega)).trans q2) 0 _ rfl
  clear hgood k0 k1 k2 hB0 hcB hT1 hneq hIown hIxown HI HIx hmore hR
  gi_wp2
  refine ⟨by simp, .inl ⟨_, _, rfl, run_takeDeferred hK, ?_⟩⟩
  clear q2 qb hK; exact ⟨.bool bb, by simp [results, Tryz.results64, go_sem, hcl], by rw [HR.out], HBE.out⟩
end Go.Proofs.YthbhknfhmkhfgaaGreatDoor
namespace Go.Proofs.YthbhknfhmkhfgaaGreatDoor
set_option maxRecDepth 100000
set_option maxHeartbeats 20000000
open Go.RowKit Go.Tab
theorem okX_of (o t : ByteArray) (n : Nat) {x : Int × Nat} (h : kOf o = some x) : okX o t n = ((decide (x.1 = -1) || decide (x.1 = (n : Int))) && txtB x.2 t) := by
 unfold okX; rw [h]
theorem okX_none (o t : ByteArray) (n : Nat) (h : kOf o = none) : okX o t n = false := by
 unfold okX; rw [h]
theorem dec_int (n : Nat) (k : Nat) : decide ((k : Int) = (n : Int)) = decide (n = k) := by
 by_cases h : n = k
 ·subst h; simp
 ·rw [decide_eq_false h, decide_eq_false]; omega
theorem rRight_step (n : Nat) (IH : ∀ (t : Exp), t.bulk <= n -> ShortX t -> ∀ (w : World) (cs : List Value), ExpAt w t cs -> Calls Tryz.prog 17 #[vX cs] w fun e w' => e = .returned (.bool (rightX t)) /\ Below w.heap.size w w')
  (op text : ByteArray) (kids : List Exp) (h : (Exp.mk op text kids).bulk <= n + 1) (hs : ShortX (.mk op text kids)) (w : World) (cs : List Value) (hv : ExpAt w (.mk op text kids) cs) :
  Calls Tryz.prog 17 #[vX cs] w fun e w' => e = .returned (.bool (rightX (.mk op text kids))) /\ Below w.heap.size w w' := by
 have hkb : bulkX kids <= n := by simp only [Exp.bulk] at h; omega
 simp only [ShortX] at hs; obtain ⟨a, cap, rfl, hl, hm, hnil, hx⟩ := hv.open; unfold maxLen at hm; simp only [vX]; clear h hv; have hb1 : Below w.heap.size w (w.alloc (.cells #[.string op, .string text, .slice a kids.length cap] 24)) := (Below.refl _ w).alloc (Nat.le_refl _) _; have hc := Cells.new w #[.string op, .string text, .slice a kids.length cap] 24; have hR : rightX (.mk op text kids) = (okX op text kids.length && rightXs kids) := by simp only [rightX]
 rw [hR]; obtain ⟨R, hRR⟩ : ∃ R, R = (okX op text kids.length && rightXs kids) := ⟨_, rfl⟩; rw [<- hRR]; have HRR := Lib.hid hRR; clear hRR; have HX := Lib.hid hx; have HIH := Lib.hid IH; have HS := Lib.hid hs; have HB := Lib.hid hb1; have HC := Lib.hid hc; clear hR hx IH hs hb1 hc; go_enter Tryz.func17, Tryz.ntmps17; go_wp2_with fail; go_loopw [2, 4] (fun rv i wr => ∃ k : Nat, k <= kids.length /\ rv = .bool false /\ i = .int .i64 (k : Int) /\ rightXs (kids.take k) = true /\ Below w.heap.size w wr /\ Cells wr w.heap.size #[.string op, .string text, .slice a kids.length cap] 24) (fun _ i _ => kids.length - (intOf i).toNat)
 case atStart => exact ⟨0, Nat.zero_le _, rfl, rfl, by simp [rightXs], HB.out, HC.out⟩
 case round =>
  obtain ⟨k, hk, rfl, rfl, hall, hbl, hcl⟩ := hrel; have HA := Lib.hid hall; have HBL := Lib.hid hbl; have hl0 := hcl.lt; clear hall HB HC
  by_cases hkl : k < kids.length
  ·have hne : kids ≠ [] := by intro h0; rw [h0] at hkl; simp at hkl
   cases a with
   | none => have := hnil rfl; omega
   | some x =>
   obtain ⟨bb, off, sp⟩ := x; obtain ⟨rfl, hlt, hkids⟩ := KidsE.below HX.out hbl _ rfl hne; simp only at hlt hkids; obtain ⟨kc0, hkc, hkv⟩ := ExpsAt.get hkids k hkl; obtain ⟨kop, ktext, ksa, ksn, ksc, rfl, m0, m1, m2⟩ := exp_at hkv hkc; have hC := HIH.out kids[k] (by have := bulkX_kid hkl; omega) (ShortX.kid hkl HS.out.2.2) _ _ hkv
   have HTk := Lib.hid (rightXs_take kids k hkl); have HBk := Lib.hid (fun h => rightXs_bad hkl h); have HCL := Lib.hid hcl; clear hkv hkc hkids hbl; simp only [vX] at hC; generalize rightX kids[k] = rb at *; have hclc0 := hcl.cell 0 _ rfl; have hclf0 := hcl.frozen 0; have hclc1 := hcl.cell 1 _ rfl; have hclf1 := hcl.frozen 1; have hclc2 := hcl.cell 2 _ rfl; have hclf2 := hcl.frozen 2; clear hcl; go_wp2_with fail; refine hC.mono ?_; rintro _ w4 ⟨rfl, hb4⟩; have HB4 := Lib.hid (HBL.out.trans (hb4.mono HBL.out.size)); have HC4 := Lib.hid (HCL.out.below hb4 hl0); clear hC hb4 hclc0 hclc1 hclc2 hclf0 hclf1 hclf2
   cases rb with
   | false =>
    go_wp2; go_ret; exact ⟨by rw [HRR.out, HBk.out trivial]; simp, HB4.out⟩
   | true =>
    go_wp2_with fail; go_roundw
    case rel => exact ⟨k + 1, hkl, rfl, by go_num, by rw [HTk.out, HA.out]; rfl, HB4.out, HC4.out⟩
    case measure => simp [intOf]; omega
  ·obtain rfl : k = kids.length := by omega
   have h5 := HA.out; rw [List.take_length] at h5; have hR := HRR.out; rw [h5, Bool.and_true] at hR; clear HRR; have p0 := hcl.cell 0 (.string op) rfl; have p1 := hcl.cell 1 (.string text) rfl; have hA1 := rAlone_any text 1 wr (by have := HS.out.2.1; omega)
   have hA2 := rAlone_any text 2 wr (by have := HS.out.2.1; omega)
   have hV := rValid_any text wr (by have := HS.out.2.1; omega)
   have HB5 := Lib.hid (hbl); have hE := empty_dec text; have e0 : ((kids.length : Int) == 0) = decide (kids.length = 0) := int_dec kids.length 0; have e1 : ((kids.length : Int) == 1) = decide (kids.length = 1) := int_dec kids.length 1; have e2 : ((kids.length : Int) == 2) = decide (kids.length = 2) := int_dec kids.length 2; have e3 : ((kids.length : Int) == 3) = decide (kids.length = 3) := int_dec kids.length 3; have d0 : decide ((0 : Int) = (kids.length : Int)) = decide (kids.length = 0) := dec_int kids.length 0; have d1 : decide ((1 : Int) = (kids.length : Int)) = decide (kids.length = 1) := dec_int kids.length 1; have d2 : decide ((2 : Int) = (kids.length : Int)) = decide (kids.length = 2) := dec_int kids.length 2; have d3 : decide ((3 : Int) = (kids.length : Int)) = decide (kids.length = 3) := dec_int kids.length 3; generalize decide (kids.length = 0) = c0 at *; generalize decide (kids.length = 1) = c1 at *; generalize decide (kids.length = 2) = c2 at *; generalize decide (kids.length = 3) = c3 at *; have HD := Lib.hid (And.intro d0 (And.intro d1 (And.intro d2 d3))); clear hcl hbl h5 HA HBL d0 d1 d2 d3 HX HIH; generalize kids.length = nn at *; rcases k_cases op with ⟨x, hx, rfl, hv⟩ | ⟨hv, h⟩
   ·rw [okX_of _ _ _ hv] at hR
    clear hv; simp only [kTab, List.mem_cons, List.not_mem_nil, or_false] at hx; rcases hx with rfl | rfl | rfl | rfl | rfl | rfl | rfl | rfl | rfl | rfl | rfl | rfl | rfl | rfl | rfl | rfl | rfl | rfl | rfl | rfl | rfl | rfl | rfl
    all_goals
     simp only [txtB, validB] at hR; simp only [strL] at p0 ⊢; have HR := Lib.hid hR; clear hR; generalize aloneB text 1 = t1 at *; generalize aloneB text 2 = t2 at *; generalize (scan (bs text) 0).2.isNone = t3 at *; generalize decide (text = ⟨#[]⟩) = t4 at *; go_wp2_with (first | (go_at_call 29; (first | with_reducible refine hA1.mono ?_ | with_reducible refine hA2.mono ?_); rintro _ w6 ⟨rfl, hb6⟩; have HB6 := Lib.hid (HB5.out.trans (hb6.mono HB5.out.size)); have hl6 := Nat.lt_of_lt_of_le hl0 hb6.size; have u0 := (hb6.cell (p := ⟨w.heap.size, 0, none⟩) hl0).trans p0; have u1 := (hb6.cell (p := ⟨w.heap.size, 1, none⟩) hl0).trans p1; clear hb6 p0 p1) | (go_at_call 34; refine hV.mono ?_; rintro _ w6 ⟨rfl, hb6⟩; have HB6 := Lib.hid (HB5.out.trans (hb6.mono HB5.out.size)); have hl6 := Nat.lt_of_lt_of_le hl0 hb6.size; clear hb6) | (go_at_call 33; refine (rLevel_any _ _).mono ?_; rintro _ _ ⟨rfl, rfl⟩; simp only [lvv0, lvv1, lvv2, lvv3, lvv4, lvv5, lvv6, lvv7, lvv8, lvv9, lvv10, lvv11, lvv12, lvv13, lvv14, lvv15]))
     all_goals go_ret
     all_goals first | exact ⟨by rw [HR.out]; (first | (simp [HD.out]; done) | (simp [HD.out, *])), HB6.out⟩ | exact ⟨by rw [HR.out]; (first | (simp [HD.out]; done) | (simp [HD.out, *])), HB5.out⟩
   ·rw [okX_none _ _ _ hv] at hR
    have s0 := op; have hl := lvv_none h; have n15 := fresh op h [110, 101, 103] (by decide)
    have n14 := fresh op h [33] (by decide)
    have n0 := fresh op h [63] (by decide)
    have n17 := fresh op h [97, 116] (by decide)
    have n18 := fresh op h [110, 97, 109, 101] (by decide)
    have n19 := fresh op h [99, 97, 108, 108] (by decide)
    have n16 := fresh op h [103, 101, 116] (by decide)
    have n20 := fresh op h [110, 117, 109] (by decide)
    have n21 := fresh op h [116, 101, 120, 116] (by decide)
    have n22 := fresh op h [108, 105, 115, 116] (by decide)
    have HR := Lib.hid hR; clear hv h hR; go_wp2_with (go_at_call 33; refine (rLevel_any _ _).mono ?_; rintro _ _ ⟨rfl, rfl⟩; rw [hl])
    go_ret; exact ⟨by rw [HR.out]; rfl, HB5.out⟩
theorem rRight_upto (n : Nat) : ∀ (t : Exp), t.bulk <= n -> ShortX t -> ∀ (w : World) (cs : List Value), ExpAt w t cs -> Calls Tryz.prog 17 #[vX cs] w fun e w' => e = .returned (.bool (rightX t)) /\ Below w.heap.size w w' := by
 induction n with
 | zero => intro t h; have := bulkX_pos t; omega
 | succ n IH =>
  intro t h hs w cs hv; cases t
  exact rRight_step n IH _ _ _ h hs w cs hv
theorem rRight_any (t : Exp) (hs : ShortX t) (w : World) (cs : List Value) (hv : ExpAt w t cs) : Calls Tryz.prog 17 #[vX cs] w fun e w' => e = .returned (.bool (rightX t)) /\ Below w.heap.size w w' :=
 rRight_upto t.bulk t (Nat.le_refl _) hs w cs hv
theorem vX_list (cs : Array Value) : vX cs.toList = .agg cs := by simp [vX]
theorem RightX_any (t : Exp) (hs : ShortX t) (w : World) (cs : List Value) (hT : LexT w) (hv : ExpAt w t cs) : Calls Tryz.prog 22 #[vX cs] w fun e w' => e = .returned (.bool (rightX t)) /\ Below w.heap.size w w' :=
 RightX_upto alone_any t.bulk t (Nat.le_refl _) hs w cs hT hv
theorem rSameX_both (t : Exp) (w : World) (cs ds : List Value) (hv : ExpAt w t cs) (hv2 : ExpAt w t ds) : Calls Tryz.prog 13 #[vX cs, vX ds] w fun e w' => e = .returned (.bool true) /\ Below w.heap.size w w' :=
 SameP.fix (b := true) (yes_iff rfl) (rSame_any t t w cs ds hv hv2)
def shS (x : Exp) : ByteArray := if rightX x = true /\ (parE (prX x)).2.2 = 0 then ptS (pcX x) else ⟨#[]⟩
def shE (x : Exp) : Int := if rightX x = true then (if (parE (prX x)).2.2 = 0 then 0 else 4) else 1
def shN (x : Exp) : Nat := if rightX x = true then brX x else 0
abbrev zeroP : Array Value := #[.pointer none, .slice none 0 0, .slice none 0 0, .int .i64 0]
theorem Prn.new (w : World) : Prn w.heap.size (w.alloc (.cells zeroP 60)) w.heap.size [] 0 :=
 ⟨none, .slice none 0 0, .slice none 0 0, [], Cells.new w _ _, .inl rfl, OwnOf.nil, OwnT.nil, rfl⟩
theorem Cx.new (w : World) : Cx w (w.alloc (.cells zeroP 60)) w.heap.size [] 0 :=
 ⟨(Below.refl _ w).alloc (Nat.le_refl _) _, Nat.le_refl _, Prn.new w, Nat.zero_le _⟩
theorem Braces_any (x : Exp) (hs : wtX x <= 300 /\ ShortX x) (w : World) (cs : List Value) (hT : LexT w) (hv : ExpAt w x cs) :
  Calls Tryz.prog 11 #[vX cs] w fun e w' => e = .returned (.int .i64 (shN x : Nat)) /\ Below w.heap.size w w' := by
 obtain ⟨o, t, a, k, c, rfl⟩ := hv.shape; have hc0 := Cells.new w #[.string o, .string t, .slice a k c] 24; have hb0 : Below w.heap.size w (w.alloc (.cells #[.string o, .string t, .slice a k c] 24)) := (Below.refl _ w).alloc (Nat.le_refl _) _; have hR := RightX_any x hs.2 _ _ (hT.below hb0) (ExpAt.below hb0 _ _ hv); simp only [vX] at hR ⊢; have HV := Lib.hid hv; have HS := Lib.hid hs; have HT := Lib.hid hT; have HN := Lib.hid (show shN x = if rightX x = true then brX x else 0 from rfl); generalize shN x = sn at *; obtain ⟨r, hr⟩ : ∃ b, rightX x = b := ⟨_, rfl⟩; rw [hr] at hR; have HR := Lib.hid hr; clear hr hv hs hT; go_enter Tryz.func11, Tryz.ntmps11; go_wp2_with fail; refine hR.mono ?_; clear hR; rintro _ w5 ⟨rfl, hb5⟩; have hc5 := hc0.below hb5 hc0.lt; have hbb := hb0.trans (hb5.mono hb0.size)
 cases r with
 | false =>
  clear hc0 hc5; go_wp2_with fail; go_ret; exact ⟨by rw [HN.out, HR.out]; rfl, hbb⟩
 | true =>
  have hC := Cx.new w5; have hX5 := ExpAt.below hbb _ _ HV.out; have hP := exprC_all x HR.out HS.out.2 w5 _ _ _ _ o t a k c (HT.out.below hbb).utf hC hX5 (by have := wt_small HR.out HS.out; rw [List.nil_append]; omega)
  have hl5 := hc5.lt; have HB := Lib.hid hbb; clear hb5 hb0 hC hX5 hc0 hbb; have hc5c0 := hc5.cell 0 _ rfl; have hc5f0 := hc5.frozen 0; have hc5c1 := hc5.cell 1 _ rfl; have hc5f1 := hc5.frozen 1; have hc5c2 := hc5.cell 2 _ rfl; have hc5f2 := hc5.frozen 2; clear hc5; go_wp2_with fail; refine hP.mono ?_; clear hP; rintro _ w6 ⟨rfl, hp6, hb6, -⟩; obtain ⟨h63, -⟩ := hp6.braces; have HB6 := Lib.hid (HB.out.trans ((((Below.refl _ w5).alloc (Nat.le_refl _) _).trans hb6).mono HB.out.size)); simp only [Nat.zero_add] at h63; clear hp6 hb6 hc5c0 hc5c1 hc5c2 hc5f0 hc5f1 hc5f2; go_wp2_with fail; go_ret; exact ⟨by rw [HN.out, HR.out]; rfl, HB6.out⟩
theorem Prn.parts {B g n : Nat} {w : World} {P : Pcs} (h : Prn B w g P n) : ∃ (cs : Array Value) (tv : Value) (ts : List Tok) (ba : Option Addr) (bc : Nat), Bld 60 B w g 0 cs (catP P) /\ w.cell? ⟨g, 2, none⟩ = some tv /\ w.cell? ⟨g, 1, none⟩ = some (.slice ba (catP P).length bc) /\ OwnT B w tv ts /\ ts.map np = tkP P /\ tv.ownBlock ≠ some g /\ Cells w g cs 60 /\ cs[2]? = some tv := by
 obtain ⟨ad, bv, tv, ts, hc, ha, hU, hT, hts⟩ := h; obtain ⟨ba, bn, bc, rfl, rfl⟩ := hU.row.shape; exact ⟨_, tv, ts, ba, bc, ⟨hc, by rcases ha with rfl | rfl; exact .inl rfl; exact .inr rfl, _, rfl, hU⟩, hc.cell 2 _ rfl, hc.cell 1 _ rfl, hT, hts, ownT_box hT hc (by decide), hc, rfl⟩
theorem tok_size {P : Pcs} {t : Tok} (h : t ∈ tkP P) : t.text.size <= wt P := by
 induction P with
 | nil => cases h
 | cons a r ih =>
  cases a with
  | none => rw [tkP_none] at h; rw [wt_none]; have := ih h; omega
  | some u =>
   rw [tkP_some] at h; rw [wt_some]; rcases List.mem_cons.1 h with rfl | h
   ·have : t.text.size = (bT t.text).length := rfl
    omega
   ·have := ih h; omega
theorem np_size {ts : List Tok} {P : Pcs} (h : ts.map np = tkP P) : (∀ t ∈ ts, t.text.size <= wt P) /\ ts.length <= wt P := by
 refine ⟨fun t ht => ?_, ?_⟩
 ·have := tok_size (P := P) (t := np t) (by rw [<- h]; exact List.mem_map_of_mem ht)
  exact this
 ·have h1 : ts.length = (tkP P).length := by rw [<- h, List.length_map]
  have := tk_le P; have : P.length <= wt P := by unfold wt; omega
  omega
theorem showExpr_any (x : Exp) (hs : wtX x <= 300 /\ ShortX x) (w : World) (cs : List Value) (hT : LexT w) (hv : ExpAt w x cs) :
  Calls Tryz.prog 9 #[vX cs] w fun e w' => e = .returned (.tuple #[.string (shS x), .int .i64 (shE x)]) /\ Below w.heap.size w w' := by
 obtain ⟨o, t, a, k, c, rfl⟩ := hv.shape; have hc0 := Cells.new w #[.string o, .string t, .slice a k c] 24; have hb0 : Below w.heap.size w (w.alloc (.cells #[.string o, .string t, .slice a k c] 24)) := (Below.refl _ w).alloc (Nat.le_refl _) _; have hR := RightX_any x hs.2 _ _ (hT.below hb0) (ExpAt.below hb0 _ _ hv); simp only [vX] at hR ⊢; have HV := Lib.hid hv; have HS := Lib.hid hs; have HT := Lib.hid hT; have HN := Lib.hid (And.intro (show shS x = if rightX x = true /\ (parE (prX x)).2.2 = 0 then ptS (pcX x) else ⟨#[]⟩ from rfl) (show shE x = if rightX x = true then (if (parE (prX x)).2.2 = 0 then 0 else 4) else 1 from rfl)); generalize shS x = ss at *; generalize shE x = se at *; obtain ⟨r, hr⟩ : ∃ b, rightX x = b := ⟨_, rfl⟩; rw [hr] at hR; have HR := Lib.hid hr; clear hr hv hs hT; go_enter Tryz.func9, Tryz.ntmps9; go_wp2_with fail; refine hR.mono ?_; clear hR; rintro _ w5 ⟨rfl, hb5⟩; have hc5 := hc0.below hb5 hc0.lt; have hbb := hb0.trans (hb5.mono hb0.size)
 cases r with
 | false =>
  clear hc0 hc5; go_wp2_with fail; refine bodyPost_ret (v := .tuple #[.string ⟨#[]⟩, .int .i64 1]) (by simp [results, Tryz.results9, go_sem]) rfl ?_
  exact ⟨by rw [HN.out.1, HN.out.2, HR.out]; simp, hbb⟩
 | true =>
  have hwt := wt_small HR.out HS.out; have hC := Cx.new w5; have hX5 := ExpAt.below hbb _ _ HV.out; have hP := exprC_all x HR.out HS.out.2 w5 _ _ _ _ o t a k c (HT.out.below hbb).utf hC hX5 (by rw [List.nil_append]; omega)
  have hl5 := hc5.lt; have HB := Lib.hid hbb; have HWT := Lib.hid hwt; clear hb5 hb0 hC hX5 hc0 hbb hwt; have hc5c0 := hc5.cell 0 _ rfl; have hc5f0 := hc5.frozen 0; have hc5c1 := hc5.cell 1 _ rfl; have hc5f1 := hc5.frozen 1; have hc5c2 := hc5.cell 2 _ rfl; have hc5f2 := hc5.frozen 2; clear hc5; go_wp2_with fail; refine hP.mono ?_; clear hP; rintro _ w6 ⟨rfl, hp6, hb6, -⟩; rw [List.nil_append] at hp6; obtain ⟨pcs, tv, ts, ba, bc, hB6, q2, q1, hown, hts, hne, hcp, hcp2⟩ := hp6.parts; have HB6 := Lib.hid (HB.out.trans ((((Below.refl _ w5).alloc (Nat.le_refl _) _).trans hb6).mono HB.out.size)); have hcat : (catP (pcX x)).length <= 60000 := by have := HWT.out; unfold wt at this; omega
  obtain ⟨hts1, hts2⟩ := np_size hts; have hwt := HWT.out; have hL := Len_any w6 w5.heap.size ba _ bc q1; have hTk := (HT.out.below HB6.out).utf
  have hpe : parE ts = parE (prX x) := by
   have h3 : prX x = tkP (pcX x) := rfl; rw [h3, <- hts, parE_map np_kt]
  have hEP := exprParse_any w6 tv ts hown.toks (fun b hb => (World.ownsRow.lt hown b hb).2) hTk hTk.pos (by omega) (fun t ht => by have := hts1 t ht; omega)
  rw [hpe] at hEP; have hag := print_again HR.out
  have hlen : ts.length = (prX x).length := by
   have h3 : prX x = tkP (pcX x) := rfl; rw [h3, <- hts, List.length_map]
  have hzz : ∃ r, parE (prX x) = r := ⟨_, rfl⟩; obtain ⟨⟨px, pn, pe⟩, hr⟩ := hzz
  have hcase : (pe = 0 /\ pn = ts.length) \/ pe ≠ 0 := by
   rcases parE_print HR.out with h | h | h
   ·rw [hr] at h
    simp only [Prod.mk.injEq] at h; exact .inl ⟨h.2.2, by rw [hlen]; exact h.2.1⟩
   ·rw [hr] at h; exact .inr (by simp only at h; omega)
   ·rw [hr] at h; exact .inr (by simp only at h; omega)
  rw [hr] at hEP HN; obtain ⟨ta, tc, rfl⟩ := hown.len
  have hS : ∀ (W : World), Below w6.heap.size w6 W -> Calls Tryz.prog 25 #[.pointer (some ⟨w5.heap.size, 0, none⟩)] W fun e w' => e = .returned (.string (ptS (pcX x))) /\ Below w5.heap.size W w' := by
   intro W hW; have hl6 := hcp.lt; obtain ⟨hb1, hb2, v, hv1, hv2⟩ := hB6; refine (String_any (T := 60) (base := w5.heap.size) (g := w5.heap.size) (o := 0) (cs := pcs) (l := catP (pcX x)) W ⟨hcp.below hW hl6, hb2, v, hv1, OwnOf.below hv2 hW (Nat.le_refl _)⟩ ?_ (by omega)).mono ?_
   ·have := hW.size
    omega
   ·rintro e w' ⟨rfl, h1, -⟩
    exact ⟨rfl, h1⟩
  have hl6 := hcp.lt; have hs6 := HB6.out.size; have HW := Lib.hid (And.intro hcase (And.intro hS (And.intro hcp hcp2))); clear hcase hS hB6 hcp hown hts hts1 hts2 hpe hag hlen hr hne hwt hp6 hb6 hTk hc5c0 hc5c1 hc5c2 hc5f0 hc5f1 hc5f2 hcp2; go_wp2_with fail; refine hL.mono ?_; clear hL; rintro _ _ ⟨rfl, rfl⟩; go_wp2_with fail; refine hEP.mono ?_; clear hEP; rintro _ w7 ⟨hb7, o7, t7, a7, n7, c7, rfl, -⟩; have h27 := (HW.out.2.2.1.below hb7 hl6).cell 2 _ HW.out.2.2.2; have hl7 := (HW.out.2.2.1.below hb7 hl6).lt; have hE7 := Lib.hid ((Cells.new w7 #[.string ⟨#[]⟩, .string ⟨#[]⟩, .slice none 0 0] 24)); have HB7 := Lib.hid (HB6.out.trans (hb7.mono HB6.out.size)); have hH7 := Lib.hid hb7; clear hb7; rcases HW.out.1 with ⟨rfl, rfl⟩ | hpe
  ·go_wp2_with fail
   refine (HW.out.2.1 _ (hH7.out.alloc hH7.out.size _)).mono ?_; rintro _ w8 ⟨rfl, hb8⟩; go_wp2_with fail; refine bodyPost_ret (v := .tuple #[.string (ptS (pcX x)), .int .i64 0]) (by simp [results, Tryz.results9, go_sem]) rfl ?_
   refine ⟨by rw [HN.out.1, HN.out.2, if_pos ⟨HR.out, trivial⟩, if_pos HR.out]; rfl, (HB7.out.alloc HB7.out.size _).trans (hb8.mono HB.out.size)⟩
  ·have hpb : (pe != 0) = true := by simpa using hpe
   go_wp2_with fail; refine bodyPost_ret (v := .tuple #[.string ⟨#[]⟩, .int .i64 4]) (by simp [results, Tryz.results9, go_sem]) rfl ?_
   refine ⟨by rw [HN.out.1, HN.out.2, if_neg (fun h => hpe h.2), if_pos HR.out, if_neg hpe], HB7.out.alloc HB7.out.size _⟩
abbrev gotA (o t : ByteArray) (kv : Value) (a e : Int) : Array Value := #[.string o, .string t, kv, .int .i64 a, .int .i64 e]
abbrev zeroG : Array Value := #[.string ⟨#[]⟩, .string ⟨#[]⟩, .slice none 0 0, .int .i64 0, .int .i64 0]
structure Ls (w : World) (lv : Value) (l : List Tok) : Prop where
 toks : ToksAt w lv l
 few : l.length <= 1000
 short : ∀ t ∈ l, t.text.size <= 1048576
 quo : ∀ t ∈ l, t.kind = 3 -> quoX t.text ≠ none
theorem Ls.below {w w' : World} {lv : Value} {l : List Tok} (h : Ls w lv l) (hb : Below w.heap.size w w') : Ls w' lv l := ⟨h.toks.below hb (Nat.le_refl _), h.few, h.short, h.quo⟩
theorem Ls.sl {w : World} {lv : Value} {l : List Tok} (h : Ls w lv l) : ∃ a c, lv = .slice a l.length c /\ l.length <= c /\ c <= maxLen := by
 obtain ⟨a, c, rfl, h1, h2, -⟩ := h.toks.len; exact ⟨a, c, rfl, h1, h2⟩
def GP (k : Nat) (r : GotX) (w : World) (e : Ending) (w' : World) : Prop :=
 Below w.heap.size w w' /\ ∃ o t a n c, e = .returned (.agg (gotA o t (.slice a n c) ((k + r.2.1 : Nat) : Int) r.2.2)) /\ (r.2.2 = 0 -> ExpIn (fun b => w.heap.size <= b) w' r.1 (expV o t (.slice a n c)))
def CC (m : Nat) : Prop := ∀ (w : World) (lv : Value) (l : List Tok) (k d : Nat), Ls w lv l -> k <= l.length -> d <= 64 -> (parX m .choice (l.drop k) d).2.2 ≠ -1 ->
 Calls Tryz.prog 28 #[lv, .int .i64 (k : Nat), .int .i64 (d : Nat)] w (GP k (parX m .choice (l.drop k) d) w)
def TC (m : Nat) : Prop := ∀ (w : World) (lv : Value) (l : List Tok) (k d n : Nat), Ls w lv l -> k <= l.length -> d <= 64 -> 1 <= n -> n <= 7 -> (parX m (.term n) (l.drop k) d).2.2 ≠ -1 ->
 Calls Tryz.prog 49 #[lv, .int .i64 (k : Nat), .int .i64 (d : Nat), .int .i64 (n : Nat)] w (GP k (parX m (.term n) (l.drop k) d) w)
def XC (m : Nat) : Prop := ∀ (w : World) (lv : Value) (l : List Tok) (k d : Nat), Ls w lv l -> k <= l.length -> d <= 64 -> (parX m .tight (l.drop k) d).2.2 ≠ -1 ->
 Calls Tryz.prog 83 #[lv, .int .i64 (k : Nat), .int .i64 (d : Nat)] w (GP k (parX m .tight (l.drop k) d) w)
def PC (m : Nat) : Prop := ∀ (w : World) (lv : Value) (l : List Tok) (k d : Nat), Ls w lv l -> k <= l.length -> d <= 64 -> (parX m .post (l.drop k) d).2.2 ≠ -1 ->
 Calls Tryz.prog 109 #[lv, .int .i64 (k : Nat), .int .i64 (d : Nat)] w (GP k (parX m .post (l.drop k) d) w)
def QC (m : Nat) : Prop := ∀ (w : World) (lv : Value) (l : List Tok) (k d : Nat), Ls w lv l -> k <= l.length -> d <= 64 -> (parX m .prime (l.drop k) d).2.2 ≠ -1 ->
 Calls Tryz.prog 127 #[lv, .int .i64 (k : Nat), .int .i64 (d : Nat)] w (GP k (parX m .prime (l.drop k) d) w)
def MC (m : Nat) : Prop := ∀ (w : World) (lv : Value) (l : List Tok) (k d : Nat) (s : ByteArray), Ls w lv l -> k < l.length -> d <= 64 -> s = sRp \/ s = sRb -> (parX m (.many s) (l.drop k) d).2.2 ≠ -1 ->
 Calls Tryz.prog 150 #[lv, .int .i64 (k : Nat), .int .i64 (d : Nat), .string s] w (GP k (parX m (.many s) (l.drop k) d) w)
theorem text_decA (a b : ByteArray) : (a.toList == b.toList) = decide (a = b) := by
 by_cases h : a = b
 ·subst h; simp
 ·rw [decide_eq_false h]; exact str_ne h
theorem rfSign_any (w : World) (lv : Value) (l : List Tok) (k : Nat) (s : ByteArray) (h : ToksAt w lv l) (hl : l.length <= 1000) (hk : k <= l.length + 1) : Calls Tryz.prog 50 #[lv, .int .i64 (k : Nat), .string s] w fun e w' => e = .returned (.bool (isS (l.drop k) s)) /\ w = w' := by
 obtain ⟨a, c, rfl, h1, h2, -⟩ := h.len; unfold maxLen at h2
 by_cases hkl : k < l.length
 ·obtain ⟨b, off, rfl, hlt, q0, q1, q2⟩ := h.get hkl
  have HD : Hid (isS (l.drop k) s = (decide (l[k].kind = 4) && decide (l[k].text = s))) := Lib.hid (by rw [List.drop_eq_getElem_cons hkl]; rfl)
  generalize l[k] = t at *; obtain ⟨kd, tx, ps⟩ := t; simp only at q0 q1 HD; clear h q2
  have ek : (kd == 4) = decide (kd = 4) := by
   by_cases h : kd = 4
   ·subst h; simp
   ·rw [decide_eq_false h]; simpa using h
  have et := text_decA tx s; generalize decide (kd = 4) = bk at *; generalize decide (tx = s) = bt at *; go_enter Tryz.func50, Tryz.ntmps50; cases bk <;> cases bt
  all_goals
   go_wp2; go_ret; exact ⟨by rw [HD.out]; rfl, rfl⟩
 ·have HD : Hid (isS (l.drop k) s = false) := Lib.hid (by rw [List.drop_eq_nil_of_le (by omega)]; rfl)
  clear h; go_enter Tryz.func50, Tryz.ntmps50; go_wp2; go_ret; exact ⟨by rw [HD.out]; rfl, rfl⟩
theorem badX_len (l : List Tok) (k : Nat) (hk : k <= l.length) : badX (l.drop k) 0 = (zeroX, 0, if k = l.length then 2 else 3) := by
 unfold badX
 by_cases h : k = l.length
 ·rw [if_pos (by rw [List.drop_eq_nil_iff]; omega), if_pos h]
 ·rw [if_neg (by rw [List.drop_eq_nil_iff]; omega), if_neg h]
theorem rfBad_any (w : World) (lv : Value) (l : List Tok) (k : Nat) (h : ToksAt w lv l) (hl : l.length <= 1000) (hk : k <= l.length) :
  Calls Tryz.prog 51 #[lv, .int .i64 (k : Nat)] w fun e w' => e = .returned (.agg (gotA ⟨#[]⟩ ⟨#[]⟩ (.slice none 0 0) (k : Int) (badX (l.drop k) 0).2.2)) /\ Below w.heap.size w w' := by
 obtain ⟨a, c, rfl, h1, h2, -⟩ := h.len; unfold maxLen at h2; rw [badX_len l k hk]; clear h
 by_cases hkl : k = l.length
 ·subst hkl
  rw [if_pos rfl]; go_enter Tryz.func51, Tryz.ntmps51; go_wp2; have hq := Cells.new w (gotA ⟨#[]⟩ ⟨#[]⟩ (.slice none 0 0) (l.length : Nat) 2) 39; have zz0 := hq.cell 0 _ rfl; have zz1 := hq.cell 1 _ rfl; have zz2 := hq.cell 2 _ rfl; have zz3 := hq.cell 3 _ rfl; have zz4 := hq.cell 4 _ rfl; refine bodyPost_ret (v := .agg (gotA ⟨#[]⟩ ⟨#[]⟩ (.slice none 0 0) (l.length : Nat) 2)) (by simp [results, Tryz.results51, go_sem, zz0, zz1, zz2, zz3, zz4]) rfl ?_
  exact ⟨rfl, (Below.refl _ w).alloc (Nat.le_refl _) _⟩
 ·rw [if_neg hkl]
  have hkl2 : k < l.length := by omega
  go_enter Tryz.func51, Tryz.ntmps51; go_wp2; have hq := Cells.new w (gotA ⟨#[]⟩ ⟨#[]⟩ (.slice none 0 0) (k : Nat) 3) 39; have zz0 := hq.cell 0 _ rfl; have zz1 := hq.cell 1 _ rfl; have zz2 := hq.cell 2 _ rfl; have zz3 := hq.cell 3 _ rfl; have zz4 := hq.cell 4 _ rfl; refine bodyPost_ret (v := .agg (gotA ⟨#[]⟩ ⟨#[]⟩ (.slice none 0 0) (k : Nat) 3)) (by simp [results, Tryz.results51, go_sem, zz0, zz1, zz2, zz3, zz4]) rfl ?_
  exact ⟨rfl, (Below.refl _ w).alloc (Nat.le_refl _) _⟩
theorem gp_fin {w W : World} {k : Nat} {r : GotX} {o t : ByteArray} {a : Option Addr} {n c : Nat} {pa pe : Int} (h1 : pa = ((k + r.2.1 : Nat) : Int)) (h2 : pe = r.2.2) (hb : Below w.heap.size w W) (hX : r.2.2 = 0 -> ExpIn (fun b => w.heap.size + 1 <= b) W r.1 (expV o t (.slice a n c))) :
  GP k r w (.returned (.agg (gotA o t (.slice a n c) pa pe))) (setAll W w.heap.size 0 [.string o, .string t, .slice a n c, .int .i64 pa, .int .i64 pe]) := by
 subst h1 h2; refine ⟨setAll_below w.heap.size w.heap.size (Nat.le_refl _) _ 0 _ _ hb, o, t, a, n, c, rfl, fun he => ?_⟩; refine ExpIn.move (by rw [setAll_size]; exact Nat.le_refl _) (fun b hb' _ => setAll_other _ _ _ _ _ (by omega)) (fun b hb' _ => by omega) _ _ (hX he)
theorem andX_ne2 {g : GotX} {f : Exp -> Nat -> GotX} (h : (andX g f).2.2 ≠ -1) : g.2.2 ≠ -1 := fun e => by
 rw [andX_bad (by rw [e]; decide)] at h
 exact h e
theorem isS_one {r : List Tok} {s s2 : ByteArray} (h : isS r s = true) (hs : s ≠ s2) : isS r s2 = false := by
 cases r with
 | nil => rfl
 | cons t r =>
  simp only [isS, Bool.and_eq_true, decide_eq_true_eq] at h; simp only [isS, h.2, decide_eq_false hs, Bool.and_false]
theorem Ls.alloc {w : World} {lv : Value} {l : List Tok} (h : Ls w lv l) (o : Obj) : Ls (w.alloc o) lv l := h.below ((Below.refl _ w).alloc (Nat.le_refl _) _)
theorem gp_mk {w W : World} {k : Nat} {r : GotX} {o t : ByteArray} {a : Option Addr} {n c : Nat} {pa pe : Int} (h1 : pa = ((k + r.2.1 : Nat) : Int)) (h2 : pe = r.2.2) (hb : Below w.heap.size w W) (hX : r.2.2 = 0 -> ExpIn (fun b => w.heap.size + 1 <= b) W r.1 (expV o t (.slice a n c))) :
  GP k r w (.returned (.agg (gotA o t (.slice a n c) pa pe))) W := by
 subst h1 h2; exact ⟨hb, o, t, a, n, c, rfl, fun he => ExpIn.move (Nat.le_refl _) (fun _ _ _ => rfl) (fun b hb' _ => by omega) _ _ (hX he)⟩
section
variable {w w4 : World} {vs : List Value}
theorem far_one (hb : Below w.heap.size w w4) (A : Obj) : Below w.heap.size w ((setAll w4 w.heap.size 0 vs).alloc A) := (setAll_below w.heap.size w.heap.size (Nat.le_refl _) vs 0 _ _ hb).alloc (by rw [setAll_size]; exact hb.size) _
theorem far_two (hb : Below w.heap.size w w4) (A B : Obj) : Below w.heap.size w (((setAll w4 w.heap.size 0 vs).alloc A).alloc B) := (far_one hb A).alloc (by simp only [World.size_alloc, setAll_size]; have := hb.size; omega) _
theorem far_exp {x : Exp} {cs : List Value} (hX : ExpIn (fun b => w.heap.size + 1 <= b) w4 x cs) (A B : Obj) : ExpIn (fun b => w.heap.size + 1 <= b) (((setAll w4 w.heap.size 0 vs).alloc A).alloc B) x cs :=
 ExpIn.move (by simp only [World.size_alloc, setAll_size]; omega) (fun b hb hl => by
  rw [Below.heap_alloc _ _ _ (by simp only [World.size_alloc, setAll_size]; omega), Below.heap_alloc _ _ _ (by rw [setAll_size]; omega), setAll_other _ _ _ _ _ (by omega)]) (fun b hb _ => hb) _ _ hX
theorem far_node (hl : w.heap.size < w4.heap.size) (A : Obj) {op text : ByteArray} (kids : List (Exp × List Value)) (hk : ∀ s ∈ kids, ExpIn (fun b => w.heap.size + 1 <= b) w4 s.1 s.2) (hm : kids.length <= maxLen) :
  ExpIn (fun b => w.heap.size + 1 <= b) (((setAll w4 w.heap.size 0 vs).alloc A).alloc (.cells (kids.flatMap (·.2)).toArray 24)) (.mk op text (kids.map (·.1))) [.string op, .string text, .slice (some ⟨w4.heap.size + 1, 0, none⟩) kids.length kids.length] := by
 have hc := Cells.new ((setAll w4 w.heap.size 0 vs).alloc A) (kids.flatMap (·.2)).toArray 24; rw [World.size_alloc, setAll_size] at hc; exact node_at kids hc (by show w.heap.size + 1 <= w4.heap.size + 1; omega) (fun s hs => far_exp (hk s hs) _ _) hm
end
theorem rfPrefix_step (m : Nat) (hP : PC m) (hX : XC m) : XC (m + 1) := by
 intro w lv l k d h hk hd hne; obtain ⟨a, c, rfl, hlc, hcm⟩ := h.sl; have hfew := h.few; unfold maxLen at hcm; rw [parX] at hne ⊢; have h0 := h.alloc (.cells zeroG 39); have hb0 : Below w.heap.size w (w.alloc (.cells zeroG 39)) := (Below.refl _ w).alloc (Nat.le_refl _) _; have hq0 := Cells.new w zeroG 39; have hsg := fun s => rfSign_any (w.alloc (.cells zeroG 39)) (.slice a l.length c) l k s h0.toks hfew (by omega)
 by_cases hb : isS (l.drop k) sBang = false /\ isS (l.drop k) sMinus = false
 ·rw [if_pos hb] at hne ⊢
  have hC := hP _ _ l k d h0 hk hd hne; obtain ⟨hb1, hb2⟩ := hb; generalize parX m .post (l.drop k) d = R at *; obtain ⟨rx, rn, re⟩ := R; have HB := Lib.hid (And.intro hb0 hq0); clear h h0 hb0 hq0 hne; go_enter Tryz.func83, Tryz.ntmps83; go_wp2_with (go_at_call 50; refine (hsg _).mono ?_; rintro _ _ ⟨rfl, rfl⟩; simp only [hb1, hb2])
  refine hC.mono ?_; clear hC hsg; rintro _ w4 ⟨hb4, o, t, a4, n4, c4, rfl, hX4⟩; have hq4 := HB.out.2.below hb4 HB.out.2.lt; have hl4 := hq4.lt; have HB4 := Lib.hid (And.intro (HB.out.1.trans (hb4.mono HB.out.1.size)) (And.intro hq4 hX4)); clear hb4 hX4; have hq4c0 := hq4.cell 0 _ rfl; have hq4f0 := hq4.frozen 0; have hq4c1 := hq4.cell 1 _ rfl; have hq4f1 := hq4.frozen 1; have hq4c2 := hq4.cell 2 _ rfl; have hq4f2 := hq4.frozen 2; have hq4c3 := hq4.cell 3 _ rfl; have hq4f3 := hq4.frozen 3; have hq4c4 := hq4.cell 4 _ rfl; have hq4f4 := hq4.frozen 4; clear hq4; go_wp2_with fail; have hq := ((((HB4.out.2.1.setI 0 (.string o)).setI 1 (.string t)).setI 2 (.slice a4 n4 c4)).setI 3 (.int .i64 ((k : Int) + (rn : Int)))).setI 4 (.int .i64 re); have zz0 := hq.cell 0 _ rfl; have zz1 := hq.cell 1 _ rfl; have zz2 := hq.cell 2 _ rfl; have zz3 := hq.cell 3 _ rfl; have zz4 := hq.cell 4 _ rfl; refine bodyPost_ret (v := .agg (#[.string o, .string t, .slice a4 n4 c4, .int .i64 ((k : Int) + (rn : Int)), .int .i64 re])) (by simp [results, Tryz.results83, go_sem, zz0, zz1, zz2, zz3, zz4]) rfl ?_
  show GP k _ w _ (setAll w4 w.heap.size 0 [.string o, .string t, .slice a4 n4 c4, .int .i64 ((k : Int) + (rn : Int)), .int .i64 re]); exact gp_fin (by simp) rfl HB4.out.1 (fun he => by have := HB4.out.2.2 he; simpa using this)
 ·rw [if_neg hb] at hne ⊢
  have hkl : k < l.length := by
   by_cases hkl : k < l.length
   ·exact hkl
   ·exfalso; apply hb; rw [List.drop_eq_nil_of_le (by omega)]; exact ⟨rfl, rfl⟩
  obtain ⟨op, hop, hops⟩ : ∃ op, op = (if isS (l.drop k) sBang then sBang else oNeg) /\ ((isS (l.drop k) sBang = true /\ isS (l.drop k) sMinus = false /\ op = sBang) \/ (isS (l.drop k) sBang = false /\ isS (l.drop k) sMinus = true /\ op = oNeg)) := by
   refine ⟨_, rfl, ?_⟩
   by_cases h1 : isS (l.drop k) sBang = true
   ·exact .inl ⟨h1, isS_one h1 (by decide), by rw [if_pos h1]⟩
   ·have h1 : isS (l.drop k) sBang = false := by simpa using h1
    refine .inr ⟨h1, ?_, by rw [if_neg (by rw [h1]; decide)]⟩
    by_cases h2 : isS (l.drop k) sMinus = true
    ·exact h2
    ·exact absurd ⟨h1, by simpa using h2⟩ hb
  rw [<- hop] at hne ⊢; clear hop hb
  by_cases hd64 : 64 <= d
  ·rw [if_pos hd64]
   clear h h0 hb0 hq0 hne; go_enter Tryz.func83, Tryz.ntmps83; rcases hops with ⟨hb1, hb2, rfl⟩ | ⟨hb1, hb2, rfl⟩
   all_goals
    go_wp2_with (go_at_call 50; refine (hsg _).mono ?_; rintro _ _ ⟨rfl, rfl⟩; simp only [hb1, hb2])
    have hq := Cells.new w (gotA ⟨#[]⟩ ⟨#[]⟩ (.slice none 0 0) (k : Nat) 5) 39; have zz0 := hq.cell 0 _ rfl; have zz1 := hq.cell 1 _ rfl; have zz2 := hq.cell 2 _ rfl; have zz3 := hq.cell 3 _ rfl; have zz4 := hq.cell 4 _ rfl; refine bodyPost_ret (v := .agg (gotA ⟨#[]⟩ ⟨#[]⟩ (.slice none 0 0) (k : Nat) 5)) (by simp [results, Tryz.results83, go_sem, zz0, zz1, zz2, zz3, zz4]) rfl ?_
    exact ⟨(Below.refl _ w).alloc (Nat.le_refl _) _, _, _, _, _, _, rfl, fun he => by cases he⟩
  ·rw [if_neg hd64] at hne ⊢
   have hne2 := andX_ne2 hne; simp only [upX] at hne2; rw [List.drop_drop, show k + 1 = k + 1 from rfl] at hne hne2 ⊢; have hC := hX _ _ l (k + 1) (d + 1) h0 (by omega) (by omega) hne2
   rw [show ((k + 1 : Nat) : Int) = (k : Int) + 1 by omega, show ((d + 1 : Nat) : Int) = (d : Int) + 1 by omega] at hC
   generalize parX m .tight (l.drop (k + 1)) (d + 1) = R at *; obtain ⟨rx, rn, re⟩ := R; have HB := Lib.hid (And.intro hb0 hq0); clear h h0 hb0 hq0 hne hne2; go_enter Tryz.func83, Tryz.ntmps83; rcases hops with ⟨hb1, hb2, rfl⟩ | ⟨hb1, hb2, rfl⟩
   ·skip
    go_wp2_with (go_at_call 50; refine (hsg _).mono ?_; rintro _ _ ⟨rfl, rfl⟩; simp only [hb1, hb2])
    refine hC.mono ?_; clear hC hsg; rintro _ w4 ⟨hb4, o, t, a4, n4, c4, rfl, hX4⟩; have hq4 := HB.out.2.below hb4 HB.out.2.lt; have hl4 := hq4.lt; have HB4 := Lib.hid (And.intro (HB.out.1.trans (hb4.mono HB.out.1.size)) (And.intro hq4 hX4)); clear hb4 hX4; have hq4c0 := hq4.cell 0 _ rfl; have hq4f0 := hq4.frozen 0; have hq4c1 := hq4.cell 1 _ rfl; have hq4f1 := hq4.frozen 1; have hq4c2 := hq4.cell 2 _ rfl; have hq4f2 := hq4.frozen 2; have hq4c3 := hq4.cell 3 _ rfl; have hq4f3 := hq4.frozen 3; have hq4c4 := hq4.cell 4 _ rfl; have hq4f4 := hq4.frozen 4; clear hq4
    by_cases he : re = 0
    ·subst he
     go_wp2_with fail; have hX5 := HB4.out.2.2 (by first | trivial | rfl)
     rw [World.size_alloc] at hX5; have hq := ((((((HB4.out.2.1.setI 0 (.string sBang)).setI 1 (.string ⟨#[]⟩)).setI 2 (.slice (some ⟨w4.heap.size + 1, 0, none⟩) 1 1)).setI 3 (.int .i64 ((k : Int) + 1 + (rn : Int)))).setI 4 (.int .i64 0)).alloc (.cells (gotA o t (.slice a4 n4 c4) ((k : Int) + 1 + (rn : Int)) 0) 39)).alloc (.cells #[.string o, .string t, .slice a4 n4 c4] 24)
     have hn : ExpIn (fun b => w.heap.size + 1 <= b) (((setAll w4 w.heap.size 0 [.string sBang, .string ⟨#[]⟩, .slice (some ⟨w4.heap.size + 1, 0, none⟩) 1 1, .int .i64 ((k : Int) + 1 + (rn : Int)), .int .i64 0]).alloc (.cells (gotA o t (.slice a4 n4 c4) ((k : Int) + 1 + (rn : Int)) 0) 39)).alloc (.cells #[.string o, .string t, .slice a4 n4 c4] 24)) (.mk sBang oNo [rx]) [.string sBang, .string oNo, .slice (some ⟨w4.heap.size + 1, 0, none⟩) 1 1] :=
      far_node hl4 _ [(rx, expV o t (.slice a4 n4 c4))] (fun s hs => by simp at hs; subst hs; exact hX5) (by simp [maxLen])
     have hbb := far_two (vs := [.string sBang, .string ⟨#[]⟩, .slice (some ⟨w4.heap.size + 1, 0, none⟩) 1 1, .int .i64 ((k : Int) + 1 + (rn : Int)), .int .i64 0]) HB4.out.1 (.cells (gotA o t (.slice a4 n4 c4) ((k : Int) + 1 + (rn : Int)) 0) 39) (.cells #[.string o, .string t, .slice a4 n4 c4] 24); have zz0 := hq.cell 0 _ rfl; have zz1 := hq.cell 1 _ rfl; have zz2 := hq.cell 2 _ rfl; have zz3 := hq.cell 3 _ rfl; have zz4 := hq.cell 4 _ rfl; refine bodyPost_ret (v := .agg (#[.string sBang, .string ⟨#[]⟩, .slice (some ⟨w4.heap.size + 1, 0, none⟩) 1 1, .int .i64 ((k : Int) + 1 + (rn : Int)), .int .i64 0])) (by simp [results, Tryz.results83, go_sem, zz0, zz1, zz2, zz3, zz4]) rfl ?_
     rw [andX_ok (by rfl)]
     exact gp_mk (r := (.mk sBang oNo [rx], 1 + rn, 0)) (by simp only; omega) rfl hbb (fun _ => hn)
    ·have e0 : (re != 0) = true := by simpa using he
     go_wp2_with fail; have hq := (((((HB4.out.2.1.setI 0 (.string o)).setI 1 (.string t)).setI 2 (.slice a4 n4 c4)).setI 3 (.int .i64 ((k : Int) + 1 + (rn : Int)))).setI 4 (.int .i64 re)).alloc (.cells (gotA o t (.slice a4 n4 c4) ((k : Int) + 1 + (rn : Int)) re) 39); have hbb := far_one (vs := [.string o, .string t, .slice a4 n4 c4, .int .i64 ((k : Int) + 1 + (rn : Int)), .int .i64 re]) HB4.out.1 (.cells (gotA o t (.slice a4 n4 c4) ((k : Int) + 1 + (rn : Int)) re) 39); have zz0 := hq.cell 0 _ rfl; have zz1 := hq.cell 1 _ rfl; have zz2 := hq.cell 2 _ rfl; have zz3 := hq.cell 3 _ rfl; have zz4 := hq.cell 4 _ rfl; refine bodyPost_ret (v := .agg (#[.string o, .string t, .slice a4 n4 c4, .int .i64 ((k : Int) + 1 + (rn : Int)), .int .i64 re])) (by simp [results, Tryz.results83, go_sem, zz0, zz1, zz2, zz3, zz4]) rfl ?_
     rw [andX_bad (by exact he)]
     exact gp_mk (r := (zeroX, 1 + rn, re)) (by simp only; omega) rfl hbb (fun h => absurd h he)
   ·skip
    go_wp2_with (go_at_call 50; refine (hsg _).mono ?_; rintro _ _ ⟨rfl, rfl⟩; simp only [hb1, hb2])
    refine hC.mono ?_; clear hC hsg; rintro _ w4 ⟨hb4, o, t, a4, n4, c4, rfl, hX4⟩; have hq4 := HB.out.2.below hb4 HB.out.2.lt; have hl4 := hq4.lt; have HB4 := Lib.hid (And.intro (HB.out.1.trans (hb4.mono HB.out.1.size)) (And.intro hq4 hX4)); clear hb4 hX4; have hq4c0 := hq4.cell 0 _ rfl; have hq4f0 := hq4.frozen 0; have hq4c1 := hq4.cell 1 _ rfl; have hq4f1 := hq4.frozen 1; have hq4c2 := hq4.cell 2 _ rfl; have hq4f2 := hq4.frozen 2; have hq4c3 := hq4.cell 3 _ rfl; have hq4f3 := hq4.frozen 3; have hq4c4 := hq4.cell 4 _ rfl; have hq4f4 := hq4.frozen 4; clear hq4
    by_cases he : re = 0
    ·subst he
     go_wp2_with fail; have hX5 := HB4.out.2.2 (by first | trivial | rfl)
     rw [World.size_alloc] at hX5; have hq := ((((((HB4.out.2.1.setI 0 (.string oNeg)).setI 1 (.string ⟨#[]⟩)).setI 2 (.slice (some ⟨w4.heap.size + 1, 0, none⟩) 1 1)).setI 3 (.int .i64 ((k : Int) + 1 + (rn : Int)))).setI 4 (.int .i64 0)).alloc (.cells (gotA o t (.slice a4 n4 c4) ((k : Int) + 1 + (rn : Int)) 0) 39)).alloc (.cells #[.string o, .string t, .slice a4 n4 c4] 24)
     have hn : ExpIn (fun b => w.heap.size + 1 <= b) (((setAll w4 w.heap.size 0 [.string oNeg, .string ⟨#[]⟩, .slice (some ⟨w4.heap.size + 1, 0, none⟩) 1 1, .int .i64 ((k : Int) + 1 + (rn : Int)), .int .i64 0]).alloc (.cells (gotA o t (.slice a4 n4 c4) ((k : Int) + 1 + (rn : Int)) 0) 39)).alloc (.cells #[.string o, .string t, .slice a4 n4 c4] 24)) (.mk oNeg oNo [rx]) [.string oNeg, .string oNo, .slice (some ⟨w4.heap.size + 1, 0, none⟩) 1 1] :=
      far_node hl4 _ [(rx, expV o t (.slice a4 n4 c4))] (fun s hs => by simp at hs; subst hs; exact hX5) (by simp [maxLen])
     have hbb := far_two (vs := [.string oNeg, .string ⟨#[]⟩, .slice (some ⟨w4.heap.size + 1, 0, none⟩) 1 1, .int .i64 ((k : Int) + 1 + (rn : Int)), .int .i64 0]) HB4.out.1 (.cells (gotA o t (.slice a4 n4 c4) ((k : Int) + 1 + (rn : Int)) 0) 39) (.cells #[.string o, .string t, .slice a4 n4 c4] 24); have zz0 := hq.cell 0 _ rfl; have zz1 := hq.cell 1 _ rfl; have zz2 := hq.cell 2 _ rfl; have zz3 := hq.cell 3 _ rfl; have zz4 := hq.cell 4 _ rfl; refine bodyPost_ret (v := .agg (#[.string oNeg, .string ⟨#[]⟩, .slice (some ⟨w4.heap.size + 1, 0, none⟩) 1 1, .int .i64 ((k : Int) + 1 + (rn : Int)), .int .i64 0])) (by simp [results, Tryz.results83, go_sem, zz0, zz1, zz2, zz3, zz4]) rfl ?_
     rw [andX_ok (by rfl)]
     exact gp_mk (r := (.mk oNeg oNo [rx], 1 + rn, 0)) (by simp only; omega) rfl hbb (fun _ => hn)
    ·have e0 : (re != 0) = true := by simpa using he
     go_wp2_with fail; have hq := (((((HB4.out.2.1.setI 0 (.string o)).setI 1 (.string t)).setI 2 (.slice a4 n4 c4)).setI 3 (.int .i64 ((k : Int) + 1 + (rn : Int)))).setI 4 (.int .i64 re)).alloc (.cells (gotA o t (.slice a4 n4 c4) ((k : Int) + 1 + (rn : Int)) re) 39); have hbb := far_one (vs := [.string o, .string t, .slice a4 n4 c4, .int .i64 ((k : Int) + 1 + (rn : Int)), .int .i64 re]) HB4.out.1 (.cells (gotA o t (.slice a4 n4 c4) ((k : Int) + 1 + (rn : Int)) re) 39); have zz0 := hq.cell 0 _ rfl; have zz1 := hq.cell 1 _ rfl; have zz2 := hq.cell 2 _ rfl; have zz3 := hq.cell 3 _ rfl; have zz4 := hq.cell 4 _ rfl; refine bodyPost_ret (v := .agg (#[.string o, .string t, .slice a4 n4 c4, .int .i64 ((k : Int) + 1 + (rn : Int)), .int .i64 re])) (by simp [results, Tryz.results83, go_sem, zz0, zz1, zz2, zz3, zz4]) rfl ?_
     rw [andX_bad (by exact he)]
     exact gp_mk (r := (zeroX, 1 + rn, re)) (by simp only; omega) rfl hbb (fun h => absurd h he)
end Go.Proofs.YthbhknfhmkhfgaaGreatDoor
