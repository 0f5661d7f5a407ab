/- Texts of this claim, one behind the other: TdI, TdJ, SqX, VaP, TdK, BoW, TdL, TdM, TdN, RuF, LkC, ToX, RuG, LaidK, LaidS, ExZ. -/
import Derived.Test.YtbcdaaobbebooaaGreatDoorLga
import Derived.Test.YtbcdaaobbebooaaGreatDoorLgd
import Derived.Test.YtbcdaaobbebooaaGreatDoorLge
import Derived.Test.YtbcdaaobbebooaaGreatDoorLgf
import Derived.Test.YtbcdaaobbebooaaGreatDoorLgg
import Derived.Lib.LaidTab
import Derived.Test.YtbcdaaobbebooaaGreatDoorRows
import Derived.Shelf.Vars
set_option linter.unusedSimpArgs false
set_option linter.unusedVariables false
namespace Go.Proofs.YtbcdaaobbebooaaGreatDoor
set_option maxRecDepth 100000
set_option maxHeartbeats 20000000
open Go.RowKit Go.Tab
end Go.Proofs.YtbcdaaobbebooaaGreatDoor
namespace Go.Proofs.YtbcdaaobbebooaaGreatDoor
set_option maxRecDepth 100000
set_option maxHeartbeats 20000000
end Go.Proofs.YtbcdaaobbebooaaGreatDoor
namespace Go.Proofs.YtbcdaaobbebooaaGreatDoor
set_option maxRecDepth 100000
set_option maxHeartbeats 20000000
def n0 (t : Tok) : Tok := ⟨t.kind, t.text, 0⟩
end Go.Proofs.YtbcdaaobbebooaaGreatDoor
namespace Go.Proofs.YtbcdaaobbebooaaGreatDoor
set_option maxRecDepth 100000
set_option maxHeartbeats 20000000
open Go.RowKit Go.Tab
end Go.Proofs.YtbcdaaobbebooaaGreatDoor
namespace Go.Proofs.YtbcdaaobbebooaaGreatDoor
set_option maxRecDepth 100000
set_option maxHeartbeats 20000000
end Go.Proofs.YtbcdaaobbebooaaGreatDoor
namespace Go.Proofs.YtbcdaaobbebooaaGreatDoor
set_option maxRecDepth 100000
set_option maxHeartbeats 20000000
abbrev m0 (r : List Tok) : List Tok := r.map n0
end Go.Proofs.YtbcdaaobbebooaaGreatDoor
namespace Go.Proofs.YtbcdaaobbebooaaGreatDoor
set_option maxRecDepth 100000
set_option maxHeartbeats 20000000
end Go.Proofs.YtbcdaaobbebooaaGreatDoor
namespace Go.Proofs.YtbcdaaobbebooaaGreatDoor
set_option maxRecDepth 100000
set_option maxHeartbeats 20000000
open Go.RowKit Go.Tab
theorem LexT.tabB {w : World} (h : LexT w) : TabB w.heap.size w := fun _ hW => (h.below hW).utf
abbrev intZ (n : Int) : Value := .int .i64 n
theorem nums_take : ∀ (l : List Bool) (k : Nat) (i : Int), k < l.length -> numsF (l.take (k + 1)) i = numsF (l.take k) i ++ (if l.getD k false then [] else [i + k])
 | b :: l, 0, i, _ => by cases b <;> simp [numsF]
 | b :: l, k + 1, i, h => by
  have ih := nums_take l k (i + 1) (by simpa using h); have e : (b :: l).getD (k + 1) false = l.getD k false := by simp
  rw [List.take_succ_cons, List.take_succ_cons, numsF, numsF, ih, e]; have e2 : i + 1 + (k : Int) = i + ((k + 1 : Nat) : Int) := by omega
  rw [e2]; cases b <;> simp
theorem nums_len : ∀ (l : List Bool) (i : Int), (numsF l i).length <= l.length
 | [], _ => Nat.le_refl _
 | b :: l, i => by
  have := nums_len l (i + 1); rw [numsF]; cases b
  ·simpa using this
  ·simp; omega
def ruleF : Nat -> Nat
 | 0 => 103
 | 1 => 104
 | 2 => 105
 | 3 => 106
 | 4 => 107
 | 5 => 108
 | _ => 109
theorem rule_any {B : Nat} (s : ByteArray) (rv : Value) (R : List RowD) (w : World) (hR : RowsAt B w rv R) (hF : ∀ r ∈ R, OkD s.data.toList r) (hn : R.length <= 1000000) (hs : s.size <= 800000) (hT : LexT w) (k : Nat) (hk : k < 7) :
  Calls Tryz.prog (ruleF k) #[txV s rv] w fun e w' => e = .returned (.bool ((rulesP s.data.toList R).getD k false)) /\ Below w.heap.size w w' := by
 have hl : ∀ r ∈ R, r.toks.length <= 1000000 := fun r hr => (hF r hr).2.1
 match k, hk with
 | 0, _ =>
  obtain ⟨ra, rc, rfl, -⟩ := hR.len; exact ended_any s ra _ rc w hs
 | 1, _ => exact clean_any s rv R w hR hF hs
 | 2, _ => exact emptyRows_any s rv R w hR hl hn
 | 3, _ => exact indented_any s rv R w hR hF hs
 | 4, _ => exact spaced_any s rv R w hR hF hs
 | 5, _ => exact aligned_any s rv R w hR hF hs hT.tabB
 | 6, _ => exact joined_any s rv R w hR hl hn
abbrev rulesA : Array Value := #[.func (.func 103) #[] #[], .func (.func 104) #[] #[], .func (.func 105) #[] #[], .func (.func 106) #[] #[], .func (.func 107) #[] #[], .func (.func 108) #[] #[], .func (.func 109) #[] #[]]
theorem rules_any (w : World) : Calls Tryz.prog 62 #[] w fun e w' => e = .returned (.slice (some ⟨w.heap.size, 0, none⟩) 7 7) /\ w' = w.alloc (.cells rulesA 101) := by
 go_enter Tryz.func62, Tryz.ntmps62; go_wp2_with fail; go_ret; exact ⟨rfl, rfl⟩
theorem broken_any (s : ByteArray) (w : World) (hT : LexT w) (hs : s.size <= 800000) (hn : (rowsP s.data.toList).length <= 1000000) (hF : (linesP s.data.toList).2.2 = 0 -> ∀ r ∈ rowsP s.data.toList, OkD s.data.toList r) :
  Calls Tryz.prog 31 #[.string s] w fun e w' => ∃ v, e = .returned v /\ OwnOf intZ 3 w.heap.size w' v (brokenP s.data.toList) /\ Below w.heap.size w w' := by
 have hP := bodyParse_any s w hT (by omega); have HBP : Hid (brokenP s.data.toList = if (linesP s.data.toList).2.2 = 0 then numsF (rulesP s.data.toList (rowsP s.data.toList)) 1 else [-1]) := Lib.hid rfl; generalize linesP s.data.toList = X at *; obtain ⟨X1, at_, er⟩ := X; simp only at hF HBP; have HF0 := Lib.hid hF; clear hF; go_enter Tryz.func31, Tryz.ntmps31; go_wp2_with fail; refine hP.mono ?_; rintro _ w1 ⟨⟨v1, rfl, -⟩, hb1⟩; clear hP
 by_cases h0 : er = 0
 ·subst h0
  have hR := lkrows_any s w1 (hT.below hb1) (by omega); have HF := Lib.hid (HF0.out rfl); have HB := Lib.hid hb1; rw [if_pos rfl] at HBP; clear HF0 hb1; generalize rowsP s.data.toList = R at *; go_wp2_with fail; refine hR.mono ?_; rintro _ w2 ⟨rv, rfl, hD, hb2⟩; clear hR; have hA := hD.at; obtain ⟨ra, rc, rfl, hc1, hc2, -⟩ := hA.len; have HB2 := Lib.hid (HB.out.trans (hb2.mono HB.out.size)); have HA := Lib.hid hA; clear hD hA hb2 HB; obtain ⟨w3, hw3⟩ : ∃ w3, w3 = w2.alloc (.cells #[.string s, .slice ra R.length rc] 98) := ⟨_, rfl⟩; have hb3 : Below w2.heap.size w2 w3 := by rw [hw3]; exact (Below.refl _ _).alloc (Nat.le_refl _) _
  have HT3 : Hid (Cells w3 w2.heap.size #[.string s, .slice ra R.length rc] 98) := Lib.hid (by rw [hw3]; exact Cells.new _ _ _); have HB3 := Lib.hid (And.intro (below_more HB2.out hb3) hb3); have hRl := rules_any w3; have hg3 := HT3.out.lt; clear hb3; go_wp2_with fail; rw [<- hw3]; refine hRl.mono ?_; rintro _ w4 ⟨rfl, hw4⟩; clear hRl hw3; have hb4 : Below w3.heap.size w3 w4 := by rw [hw4]; exact (Below.refl _ _).alloc (Nat.le_refl _) _
  have HT4 : Hid (Cells w4 w2.heap.size #[.string s, .slice ra R.length rc] 98 /\ Cells w4 w3.heap.size rulesA 101) := Lib.hid ⟨HT3.out.below hb4 HT3.out.lt, by rw [hw4]; exact Cells.new _ _ _⟩; have HB4 := Lib.hid (And.intro (below_more HB3.out.1 hb4) (below_more HB3.out.2 hb4)); have HA4 := Lib.hid ((HA.out.below HB4.out.2)); have HL4 := Lib.hid (hT.below HB4.out.1); clear hb4 hw4 HT3 HB3 hg3 HA; obtain ⟨bs, hbs⟩ : ∃ bs, bs = rulesP s.data.toList R := ⟨_, rfl⟩; have hbl : bs.length = 7 := by rw [hbs]; rfl
  have HRU : Hid (∀ k, k < 7 -> ∀ W, Below w4.heap.size w4 W -> Calls Tryz.prog (ruleF k) #[txV s (.slice ra R.length rc)] W fun e w' => e = .returned (.bool (bs.getD k false)) /\ Below W.heap.size W w') := Lib.hid (fun k hk W hW => by
   rw [hbs]
   exact rule_any s _ R W (HA4.out.below hW) HF.out hn hs (HL4.out.below hW) k hk)
  rw [<- hbs] at HBP; have HBL := Lib.hid hbl; have HNT := Lib.hid (fun k (hk : k < 7) => nums_take bs k 1 (by omega)); clear hbs hbl HA4 HL4 hn; go_wp2_with fail; go_loopw [7, 25] (fun lv i wr => ∃ k : Nat, k <= 7 /\ i = .int .i64 (k : Int) /\ OwnOf intZ 3 w4.heap.size wr lv (numsF (bs.take k) 1) /\ Below w4.heap.size w4 wr) (fun _ i _ => 7 - (intOf i).toNat)
  case atStart => exact ⟨0, Nat.zero_le _, rfl, OwnOf.nil, Below.refl _ _⟩
  case round =>
   obtain ⟨k, hk, rfl, hown, hb⟩ := hrel; have HE := Lib.hid (And.intro hown hb); obtain ⟨oa, oc, rfl, -⟩ := hown.row.len; have hlenN := nums_len (bs.take k) 1
   have hlenN2 : (numsF (bs.take k) 1).length <= 7 := by
    have := HBL.out; rw [List.length_take] at hlenN; omega
   have hT5 := HT4.out.1.below hb HT4.out.1.lt; have hR5 := HT4.out.2.below hb HT4.out.2.lt; have hT5l := hT5.lt; have hR5l := hR5.lt; have hT5c0 := hT5.cell 0 _ rfl; have hT5f0 := hT5.frozen 0; have hT5c1 := hT5.cell 1 _ rfl; have hT5f1 := hT5.frozen 1
   by_cases hkl : k < 7
   ·have hru := HRU.out k hkl wr hb
    have hnt := Lib.hid (HNT.out k hkl); have hcr := hR5.cell k; have HN7 : Hid (∀ W v, OwnOf intZ 3 w4.heap.size W v (numsF (bs.take (k + 1)) 1) -> OwnOf intZ 3 w4.heap.size W v (numsF (bs.take (k + 1)) 1)) := Lib.hid (fun _ _ h => h); generalize bs.getD k false = bb at *; generalize numsF (bs.take k) 1 = E at *; clear hown hlenN hT5 hR5; have hk7 : k = 0 \/ k = 1 \/ k = 2 \/ k = 3 \/ k = 4 \/ k = 5 \/ k = 6 := by omega
    rcases hk7 with rfl | rfl | rfl | rfl | rfl | rfl | rfl
    all_goals
     have hcr := hcr _ rfl; simp only [ruleF] at hru; go_wp2_with fail; refine hru.mono ?_; rintro _ w5 ⟨rfl, hb5⟩; have HE5 : Hid (OwnOf intZ 3 w4.heap.size w5 (.slice oa E.length oc) E /\ Below w4.heap.size w4 w5) := Lib.hid ⟨HE.out.1.below hb5 (Nat.le_refl _), below_more HE.out.2 hb5⟩; have hs5 := HE5.out.2.size; clear hru hcr hb5 hb HE hT5c0 hT5c1 hT5f0 hT5f1 hT5l hR5l
     cases bb with
     | true =>
      go_wp2_with fail; go_roundw
      case rel => exact ⟨_, hkl, by go_num, by rw [hnt.out]; simpa using HE5.out.1, HE5.out.2⟩
      case measure => simp [intOf]
     | false =>
      go_wp2_with (with_reducible first | refine stop_append ?_)
      refine Stop.out ?_; have hlit := fun n => OwnOf.lit (f := intZ) (E := 3) (base := w5.heap.size) (w := w5) [n] (Nat.le_refl _) (by simp [maxLen]); refine wpList_append_row (f := intZ) rfl _ _ _ rfl w4.heap.size 3 8 (.int .i64 0) Tryz.underlying58 Tryz.infoIntZ rfl (fun _ => rfl) E [_] (by exact HE5.out.1.alloc _) (by exact (hlit _).row) (by simp; unfold maxLen; omega) (by simp; omega) (by simp; omega) w4 (by exact (HE5.out.2.alloc hs5 _)) ?_; intro v6 w6 hown6 hb6 hg6; obtain ⟨r6, c6, rfl, -⟩ := hown6.row.len; have H6 := Lib.hid (And.intro hown6 hb6); clear hlit hown6 hb6 hg6; go_wp2; go_roundw
      case rel => exact ⟨_, hkl, by go_num, by rw [hnt.out]; simpa using H6.out.1, H6.out.2⟩
      case measure => simp [intOf]
   ·obtain rfl : k = 7 := by omega
    have hall : numsF (bs.take 7) 1 = numsF bs 1 := by rw [List.take_of_length_le (by have := HBL.out; omega)]
    have HR : Hid (numsF (bs.take 7) 1 = brokenP s.data.toList) := Lib.hid (by rw [hall, HBP.out]); clear hall hT5 hR5 hown hlenN; generalize numsF (bs.take 7) 1 = E at *; go_wp2_with fail; go_ret; have hs4 := HB4.out.1.size; rw [<- HR.out]; exact ⟨_, rfl, HE.out.1.base_le hs4, HB4.out.1.trans (HE.out.2.mono hs4)⟩
 ·have hne : (er != 0) = true := by simpa using h0
  have HBR : Hid (brokenP s.data.toList = [-1]) := Lib.hid (by rw [HBP.out, if_neg h0]); have HB := Lib.hid hb1; have hlit := OwnOf.lit (f := intZ) (E := 3) (base := w.heap.size) (w := w1) [-1] hb1.size (by simp [maxLen]); have HL := Lib.hid hlit; clear h0 HF0 HBP hb1 hlit; go_wp2_with fail; go_ret; rw [HBR.out]; exact ⟨_, rfl, HL.out, HB.out.alloc HB.out.size _⟩
theorem r15Val_any (t : Tok) (w : World) : Calls Tryz.prog 39 #[tokV t] w fun e w' => e = .returned (.bool (wordB t || (isB t ⟨#[41]⟩ || isB t ⟨#[93]⟩))) /\ Below w.heap.size w w' := by
 have hI := fun s W => r15Is_any t s W; have hB := tokB_below w t; obtain ⟨k, tx, p⟩ := t; have e1 := int_dec k 1; have e2 := int_dec k 2; have e3 := int_dec k 3; have h4 := hI ⟨#[41]⟩; have h5 := hI ⟨#[93]⟩; have HB := Lib.hid hB; unfold wordB; simp only [tokV] at h4 h5 ⊢; generalize decide (k = 1) = b1 at *; generalize decide (k = 2) = b2 at *; generalize decide (k = 3) = b3 at *; generalize isB ⟨k, tx, p⟩ ⟨#[41]⟩ = b4 at *; generalize isB ⟨k, tx, p⟩ ⟨#[93]⟩ = b5 at *; have HB2 := Lib.hid (fun a b => ((HB.out.alloc HB.out.size a).alloc (by simp; have := HB.out.size; omega) b)); clear hI hB; have key : b1 = true \/ b2 = true \/ b3 = true \/ (b1 = false /\ b2 = false /\ b3 = false) := by cases b1 <;> cases b2 <;> cases b3 <;> simp
 go_enter Tryz.func39, Tryz.ntmps39; rcases key with rfl | rfl | rfl | ⟨rfl, rfl, rfl⟩
 ·go_wp2_with fail
  go_ret; exact ⟨rfl, HB.out⟩
 ·cases b1
  all_goals
   go_wp2_with fail; go_ret; exact ⟨rfl, HB.out⟩
 ·cases b1 <;> cases b2
  all_goals
   go_wp2_with fail; go_ret; exact ⟨rfl, HB.out⟩
 ·cases b4 <;> cases b5
  all_goals
   go_wp2_with (first | (go_at_call 37; (with_reducible refine (h4 _).mono ?_); rintro _ _ ⟨rfl, rfl⟩) | (go_at_call 37; (with_reducible refine (h5 _).mono ?_); rintro _ _ ⟨rfl, rfl⟩))
   go_ret
   first
    | exact ⟨rfl, HB2.out _ _⟩
    | exact ⟨rfl, HB.out.alloc HB.out.size _⟩
theorem behB_is {l : List Tok} {k : Nat} (h : k < l.length) (hc : comB l[k] = false) : behB l (k + 1) = (decide (l[k].kind = 4) && (!isB l[k] ⟨#[41]⟩ && !isB l[k] ⟨#[93]⟩)) := by
 rw [behB_succ h, hc, among_cons, among_cons, among_nil, Bool.or_false, Bool.not_or]; rfl
theorem r15Pre_any (w : World) (lv : Value) (l : List Tok) (h : ToksAt w lv l) (i : Nat) (hi : i < l.length) (hl : l.length <= 1000000) :
  Calls Tryz.prog 38 #[lv, .int .i64 (i : Nat)] w fun e w' => e = .returned (.bool (isB l[i] ⟨#[45]⟩ && behB l i)) /\ Below w.heap.size w w' := by
 obtain ⟨a, c, rfl, h1, h2, -⟩ := h.len; unfold maxLen at h2; have HT := Lib.hid h; obtain ⟨b, off, rfl, hlt, q0, q1, q2⟩ := h.get hi; have hI0 := r15Is_any l[i] ⟨#[45]⟩
 have HQ : Hid (∀ W, Below w.heap.size w W -> W.cell? ⟨b, off + i * 3, none⟩ = some (.int .i64 l[i].kind) /\ W.cell? ⟨b, off + i * 3 + 1, none⟩ = some (.string l[i].text) /\ W.cell? ⟨b, off + i * 3 + 2, none⟩ = some (.int .i64 l[i].pos)) :=
  Lib.hid fun W hW => ⟨(hW.cell (p := ⟨b, off + i * 3, none⟩) hlt).trans q0, (hW.cell (p := ⟨b, off + i * 3 + 1, none⟩) hlt).trans q1, (hW.cell (p := ⟨b, off + i * 3 + 2, none⟩) hlt).trans q2⟩
 clear h q0 q1 q2; generalize l[i] = x at *; obtain ⟨ki, ti, pi⟩ := x; simp only [tokV] at hI0 HQ; generalize isB ⟨ki, ti, pi⟩ ⟨#[45]⟩ = m1 at *; have hI1 : CallB 37 _ w _ := .tok hI0; go_enter Tryz.func38, Tryz.ntmps38; go_wp2_with fail; go_loopw [5] (fun v wr => ∃ k : Nat, k <= i /\ v = .int .i64 ((k : Int) - 1) /\ Hid (behB l k = behB l i) /\ Below w.heap.size w wr) (fun v _ => (intOf v + 1).toNat)
 case atStart => exact ⟨i, Nat.le_refl _, by go_num, Lib.hid rfl, Below.refl _ _⟩
 case round =>
  obtain ⟨k, hk, rfl, HA, hb⟩ := hrel; have HB := Lib.hid hb
  cases k with
  | zero =>
   obtain ⟨q0, q1, q2⟩ := HQ.out wr hb; go_wp2_with fail; refine (hI1 _ hb).mono ?_; rintro _ w3 ⟨rfl, hb3⟩; cases m1
   all_goals
    go_wp2_with fail; go_ret; rw [<- HA.out, behB_zero]; exact ⟨rfl, hb3⟩
  | succ k =>
   have hkl : k < l.length := by omega
   obtain ⟨b', off', e', -, r0, r1, r2⟩ := ToksAt.get (HT.out.below hb (Nat.le_refl _)) hkl; cases e'
   obtain ⟨q0, q1, q2⟩ := HQ.out wr hb
   have HR : Hid (∀ W, Below wr.heap.size wr W -> W.cell? ⟨b, off + k * 3, none⟩ = some (.int .i64 l[k].kind) /\ W.cell? ⟨b, off + k * 3 + 1, none⟩ = some (.string l[k].text) /\ W.cell? ⟨b, off + k * 3 + 2, none⟩ = some (.int .i64 l[k].pos)) :=
    Lib.hid fun W hW => ⟨(hW.cell (p := ⟨b, off + k * 3, none⟩) (Nat.lt_of_lt_of_le hlt hb.size)).trans r0, (hW.cell (p := ⟨b, off + k * 3 + 1, none⟩) (Nat.lt_of_lt_of_le hlt hb.size)).trans r1, (hW.cell (p := ⟨b, off + k * 3 + 2, none⟩) (Nat.lt_of_lt_of_le hlt hb.size)).trans r2⟩
   have hS := behB_succ hkl; have hS2 := behB_is hkl; have hk1 : IntKind.i64.wrap ((k : Int) - 1) = (k : Int) - 1 := IntWalk.i64_in _ (by omega); have hk2 : ((k + 1 : Nat) : Int) - 1 = (k : Int) := by omega
   rw [hk2]; generalize l[k] = t at *; have hC : CallB 36 #[tokV t] wr (.bool (comB t)) := .tok (rfCom_any t); have hJ1 : CallB 37 #[tokV t, .string ⟨#[41]⟩] wr (.bool (isB t ⟨#[41]⟩)) := .tok (r15Is_any t _); have hJ2 : CallB 37 #[tokV t, .string ⟨#[93]⟩] wr (.bool (isB t ⟨#[93]⟩)) := .tok (r15Is_any t _); have hI2 : CallB 37 _ wr _ := .tok hI0; have hkd := int_dec t.kind 4; obtain ⟨kd, tx, ps⟩ := t; simp only [tokV] at hC hJ1 hJ2 HR r0 r1 r2 hkd hS hS2; generalize comB ⟨kd, tx, ps⟩ = cb at *; generalize isB ⟨kd, tx, ps⟩ ⟨#[41]⟩ = j1 at *; generalize isB ⟨kd, tx, ps⟩ ⟨#[93]⟩ = j2 at *; generalize decide (kd = 4) = dk at *; have HS := Lib.hid (And.intro hS hS2); have hbr := Below.refl wr.heap.size wr; clear hS hS2 hb hk2 hlt
   cases cb with
   | true =>
    go_wp2_with fail
    (with_reducible refine (hC _ hbr).mono ?_)
    rintro _ w3 ⟨rfl, hb3⟩; clear hC hJ1 hJ2 hI1 hI2; go_wp2_with fail; go_roundw
    case rel => exact ⟨k, by omega, rfl, Lib.hid (by rw [<- HA.out, HS.out.1]; try rfl), HB.out.trans (hb3.mono HB.out.size)⟩
    case measure => simp [intOf] <;> omega
   | false =>
    go_wp2_with fail
    (with_reducible refine (hC _ hbr).mono ?_)
    rintro _ w3 ⟨rfl, hb3⟩; obtain ⟨s0, s1, s2⟩ := HR.out w3 hb3; obtain ⟨p0, p1, p2⟩ := HQ.out w3 (HB.out.trans (hb3.mono HB.out.size)); clear hC q0 q1 q2 r0 r1 r2; go_wp2_with fail
    (with_reducible refine (hI2 _ hb3).mono ?_)
    rintro _ w4 ⟨rfl, hb4⟩; obtain ⟨s0, s1, s2⟩ := HR.out w4 hb4; have HE := Lib.hid (HS.out.2 trivial); have HB4 := Lib.hid (fun W (hW : Below wr.heap.size wr W) => HB.out.trans (hW.mono HB.out.size)); clear p0 p1 p2
    cases m1 with
    | false =>
     go_wp2_with fail; go_ret; rw [Bool.false_and]; exact ⟨rfl, HB4.out _ hb4⟩
    | true =>
     cases dk with
     | false =>
      go_wp2_with fail; go_ret; rw [Bool.true_and, <- HA.out, HE.out]; exact ⟨rfl, HB4.out _ hb4⟩
     | true =>
      go_wp2_with fail
      (with_reducible refine (hJ1 _ hb4).mono ?_)
      rintro _ w5 ⟨rfl, hb5⟩; obtain ⟨s0, s1, s2⟩ := HR.out w5 hb5
      cases j1 with
      | true =>
       go_wp2_with fail; go_ret; rw [Bool.true_and, <- HA.out, HE.out]; exact ⟨rfl, HB4.out _ hb5⟩
      | false =>
       go_wp2_with fail
       (with_reducible refine (hJ2 _ hb5).mono ?_)
       rintro _ w6 ⟨rfl, hb6⟩; cases j2
       all_goals
        go_wp2_with fail; go_ret; rw [Bool.true_and, <- HA.out, HE.out]; exact ⟨rfl, HB4.out _ hb6⟩
theorem r15Gap_any (w : World) (lv : Value) (l : List Tok) (h : ToksAt w lv l) (hl : l.length <= 1000000) (z : Int) (hz : (Lit.int .i64 z).wf = true) :
  Calls Tryz.prog 11 #[lv, .int .i64 z] w fun e w' => e = .returned (.int .i64 (gapN l z.toNat : Nat)) /\ Below w.heap.size w w' := by
 obtain ⟨a, c, rfl, h1, h2, -⟩ := h.len; unfold maxLen at h2
 by_cases hz0 : z <= 0
 ·rw [show z.toNat = 0 by omega]
  clear hz; go_enter Tryz.func11, Tryz.ntmps11; go_wp2_with fail; go_ret; exact ⟨rfl, Below.refl _ _⟩
 ·by_cases hz1 : (l.length : Int) <= z
  ·rw [gapN_out (by omega)]
   clear hz; go_enter Tryz.func11, Tryz.ntmps11; go_wp2_with fail; go_ret; exact ⟨rfl, Below.refl _ _⟩
  ·obtain ⟨i, rfl⟩ : ∃ i : Nat, z = i + 1 := ⟨(z - 1).toNat, by omega⟩
   have hi : i + 1 < l.length := by omega
   rw [show ((i : Int) + 1).toNat = i + 1 by omega, gapN_in hi, gap_same]; clear hz; obtain ⟨b, off, rfl, hlt, q0, q1, q2⟩ := h.get (j := i) (by omega); obtain ⟨b', off', e', -, r0, r1, r2⟩ := h.get hi; cases e'
   have hBh := fun W hW => r15Pre_any W _ l (h.below hW (Nat.le_refl _)) i (by omega) hl; have kq : IntKind.i64.wrap ((i : Int) + 1 - 1) = (i : Int) := by rw [IntWalk.i64_in _ (by omega)]; omega
   generalize behB l i = m at *; generalize l[i] = xa at *; generalize l[i + 1] = xb at *; obtain ⟨ka, ta, pa⟩ := xa; obtain ⟨kb, tb, pb⟩ := xb; simp only at q0 q1 q2 r0 r1 r2; clear h; obtain ⟨G, hG⟩ : ∃ G, G = gapR ⟨ka, ta, pa⟩ ⟨kb, tb, pb⟩ m := ⟨_, rfl⟩; rw [<- hG]; go_enter Tryz.func11, Tryz.ntmps11; go_upto_region 3 with fail
   go_cut [5, 6] (fun x y wc => ∃ p5 p6 : Nat, x = .pointer (some ⟨p5, 0, none⟩) /\ y = .pointer (some ⟨p6, 0, none⟩) /\
    Cells wc p5 #[.int .i64 ka, .string ta, .int .i64 pa] 63 /\ Cells wc p6 #[.int .i64 kb, .string tb, .int .i64 pb] 63 /\ Below w.heap.size w wc)
   case first =>
    go_region
    all_goals go_wp2_with fail
    all_goals go_meet
    all_goals
     first
      | exact ⟨_, _, rfl, rfl, (two_tok _ _ _ _).1, (two_tok _ _ _ _).2.1, (two_tok _ _ _ _).2.2⟩
      | exact ⟨_, _, rfl, rfl, (two_tok _ _ _ _).2.1, (two_tok _ _ _ _).1, (two_tok _ _ _ _).2.2⟩
   case rest =>
    obtain ⟨p5, p6, rfl, rfl, hA, hB, hbc⟩ := hcut; have HX := Lib.hid (Bx2.of hA hB); have HBC := Lib.hid hbc; have hC1 : CallB 36 _ wc _ := .tok (rfCom_any ⟨ka, ta, pa⟩); have hC2 : CallB 36 _ wc _ := .tok (rfCom_any ⟨kb, tb, pb⟩); have hA1 : CallB 37 _ wc _ := .tok (r15Is_any ⟨ka, ta, pa⟩ ⟨#[40]⟩); have hA2 : CallB 37 _ wc _ := .tok (r15Is_any ⟨ka, ta, pa⟩ ⟨#[91]⟩); have hA3 : CallB 37 _ wc _ := .tok (r15Is_any ⟨ka, ta, pa⟩ ⟨#[46]⟩); have hA4 : CallB 37 _ wc _ := .tok (r15Is_any ⟨ka, ta, pa⟩ ⟨#[33]⟩); have hP : CallB 38 _ wc _ := .of fun W hW => hBh W (hbc.trans (hW.mono hbc.size)); have hB1 : CallB 37 _ wc _ := .tok (r15Is_any ⟨kb, tb, pb⟩ ⟨#[41]⟩); have hB2 : CallB 37 _ wc _ := .tok (r15Is_any ⟨kb, tb, pb⟩ ⟨#[93]⟩); have hB3 : CallB 37 _ wc _ := .tok (r15Is_any ⟨kb, tb, pb⟩ ⟨#[44]⟩); have hB4 : CallB 37 _ wc _ := .tok (r15Is_any ⟨kb, tb, pb⟩ ⟨#[46]⟩); have hD1 : CallB 37 _ wc _ := .tok (r15Is_any ⟨kb, tb, pb⟩ ⟨#[40]⟩); have hD2 : CallB 37 _ wc _ := .tok (r15Is_any ⟨kb, tb, pb⟩ ⟨#[91]⟩); have hV : CallB 39 _ wc _ := .of fun W _ => r15Val_any ⟨ka, ta, pa⟩ W; have hE1 : CallB 37 _ wc _ := .tok (r15Is_any ⟨ka, ta, pa⟩ ⟨#[123]⟩); have hE2 : CallB 37 _ wc _ := .tok (r15Is_any ⟨kb, tb, pb⟩ ⟨#[125]⟩); have hK := int_dec ka 1; simp only [tokV] at hC1 hC2 hA1 hA2 hA3 hA4 hP hB1 hB2 hB3 hB4 hD1 hD2 hV hE1 hE2
    change G = (if (comB ⟨ka, ta, pa⟩ || comB ⟨kb, tb, pb⟩) = true then 1
     else if (isB ⟨ka, ta, pa⟩ ⟨#[40]⟩ || (isB ⟨ka, ta, pa⟩ ⟨#[91]⟩ || (isB ⟨ka, ta, pa⟩ ⟨#[46]⟩ || (isB ⟨ka, ta, pa⟩ ⟨#[33]⟩ || (isB ⟨ka, ta, pa⟩ ⟨#[45]⟩ && m))))) = true then 0
     else if (isB ⟨kb, tb, pb⟩ ⟨#[41]⟩ || (isB ⟨kb, tb, pb⟩ ⟨#[93]⟩ || (isB ⟨kb, tb, pb⟩ ⟨#[44]⟩ || isB ⟨kb, tb, pb⟩ ⟨#[46]⟩))) = true then 0
     else if ((isB ⟨kb, tb, pb⟩ ⟨#[40]⟩ && decide (ka = 1)) || ((isB ⟨kb, tb, pb⟩ ⟨#[91]⟩ && (wordB ⟨ka, ta, pa⟩ || (isB ⟨ka, ta, pa⟩ ⟨#[41]⟩ || isB ⟨ka, ta, pa⟩ ⟨#[93]⟩))) || (isB ⟨ka, ta, pa⟩ ⟨#[123]⟩ && isB ⟨kb, tb, pb⟩ ⟨#[125]⟩))) = true then 0
     else 1) at hG
    generalize comB ⟨ka, ta, pa⟩ = xc1 at *; generalize comB ⟨kb, tb, pb⟩ = xc2 at *; generalize (isB ⟨ka, ta, pa⟩ ⟨#[45]⟩ && m) = xp at *; generalize (wordB ⟨ka, ta, pa⟩ || (isB ⟨ka, ta, pa⟩ ⟨#[41]⟩ || isB ⟨ka, ta, pa⟩ ⟨#[93]⟩)) = xv at *; generalize isB ⟨ka, ta, pa⟩ ⟨#[40]⟩ = x1 at *; generalize isB ⟨ka, ta, pa⟩ ⟨#[91]⟩ = x2 at *; generalize isB ⟨ka, ta, pa⟩ ⟨#[46]⟩ = x3 at *; generalize isB ⟨ka, ta, pa⟩ ⟨#[33]⟩ = x4 at *; generalize isB ⟨kb, tb, pb⟩ ⟨#[41]⟩ = y1 at *; generalize isB ⟨kb, tb, pb⟩ ⟨#[93]⟩ = y2 at *; generalize isB ⟨kb, tb, pb⟩ ⟨#[44]⟩ = y3 at *; generalize isB ⟨kb, tb, pb⟩ ⟨#[46]⟩ = y4 at *; generalize isB ⟨kb, tb, pb⟩ ⟨#[40]⟩ = z1 at *; generalize isB ⟨kb, tb, pb⟩ ⟨#[91]⟩ = z2 at *; generalize isB ⟨ka, ta, pa⟩ ⟨#[123]⟩ = z3 at *; generalize isB ⟨kb, tb, pb⟩ ⟨#[125]⟩ = z4 at *; generalize decide (ka = 1) = xk at *; have HG := Lib.hid hG; obtain ⟨c0, c1, c2, d0, d1, d2, l1, l2⟩ := HX.out wc (Below.refl _ _); have hb := Below.refl wc.heap.size wc; clear hG hA hB hbc hBh q0 q1 q2 r0 r1 r2 hi hlt hl
    focus (go_wp2_with (go_at_call 36; (with_reducible refine (hC1 _ hb).mono ?_); clear c0 c1 c2 d0 d1 d2 l1 l2; rintro _ W ⟨rfl, hb⟩; obtain ⟨c0, c1, c2, d0, d1, d2, l1, l2⟩ := HX.out W hb; refine Stop.into ?_); refine Stop.out ?_)
    cases xc1
    rotate_left
    ·(go_wp2_with fail; go_ret; exact ⟨by rw [HG.out]; rfl, HBC.out.trans (hb.mono HBC.out.size)⟩)
    focus (go_wp2_with (go_at_call 36; (with_reducible refine (hC2 _ hb).mono ?_); clear c0 c1 c2 d0 d1 d2 l1 l2; rintro _ W ⟨rfl, hb⟩; obtain ⟨c0, c1, c2, d0, d1, d2, l1, l2⟩ := HX.out W hb; refine Stop.into ?_); refine Stop.out ?_)
    cases xc2
    rotate_left
    ·(go_wp2_with fail; go_ret; exact ⟨by rw [HG.out]; rfl, HBC.out.trans (hb.mono HBC.out.size)⟩)
    focus (go_wp2_with (go_at_call 37; (with_reducible refine (hA1 _ hb).mono ?_); clear c0 c1 c2 d0 d1 d2 l1 l2; rintro _ W ⟨rfl, hb⟩; obtain ⟨c0, c1, c2, d0, d1, d2, l1, l2⟩ := HX.out W hb; refine Stop.into ?_); refine Stop.out ?_)
    cases x1
    rotate_left
    ·(go_wp2_with fail; go_ret; exact ⟨by rw [HG.out]; rfl, HBC.out.trans (hb.mono HBC.out.size)⟩)
    focus (go_wp2_with (go_at_call 37; (with_reducible refine (hA2 _ hb).mono ?_); clear c0 c1 c2 d0 d1 d2 l1 l2; rintro _ W ⟨rfl, hb⟩; obtain ⟨c0, c1, c2, d0, d1, d2, l1, l2⟩ := HX.out W hb; refine Stop.into ?_); refine Stop.out ?_)
    cases x2
    rotate_left
    ·(go_wp2_with fail; go_ret; exact ⟨by rw [HG.out]; rfl, HBC.out.trans (hb.mono HBC.out.size)⟩)
    focus (go_wp2_with (go_at_call 37; (with_reducible refine (hA3 _ hb).mono ?_); clear c0 c1 c2 d0 d1 d2 l1 l2; rintro _ W ⟨rfl, hb⟩; obtain ⟨c0, c1, c2, d0, d1, d2, l1, l2⟩ := HX.out W hb; refine Stop.into ?_); refine Stop.out ?_)
    cases x3
    rotate_left
    ·(go_wp2_with fail; go_ret; exact ⟨by rw [HG.out]; rfl, HBC.out.trans (hb.mono HBC.out.size)⟩)
    focus (go_wp2_with (go_at_call 37; (with_reducible refine (hA4 _ hb).mono ?_); clear c0 c1 c2 d0 d1 d2 l1 l2; rintro _ W ⟨rfl, hb⟩; obtain ⟨c0, c1, c2, d0, d1, d2, l1, l2⟩ := HX.out W hb; refine Stop.into ?_); refine Stop.out ?_)
    cases x4
    rotate_left
    ·(go_wp2_with fail; go_ret; exact ⟨by rw [HG.out]; rfl, HBC.out.trans (hb.mono HBC.out.size)⟩)
    focus (go_wp2_with (go_at_call 38; (with_reducible refine (hP _ hb).mono ?_); clear c0 c1 c2 d0 d1 d2 l1 l2; rintro _ W ⟨rfl, hb⟩; obtain ⟨c0, c1, c2, d0, d1, d2, l1, l2⟩ := HX.out W hb; refine Stop.into ?_); refine Stop.out ?_)
    cases xp
    rotate_left
    ·(go_wp2_with fail; go_ret; exact ⟨by rw [HG.out]; rfl, HBC.out.trans (hb.mono HBC.out.size)⟩)
    focus (go_wp2_with (go_at_call 37; (with_reducible refine (hB1 _ hb).mono ?_); clear c0 c1 c2 d0 d1 d2 l1 l2; rintro _ W ⟨rfl, hb⟩; obtain ⟨c0, c1, c2, d0, d1, d2, l1, l2⟩ := HX.out W hb; refine Stop.into ?_); refine Stop.out ?_)
    cases y1
    rotate_left
    ·(go_wp2_with fail; go_ret; exact ⟨by rw [HG.out]; rfl, HBC.out.trans (hb.mono HBC.out.size)⟩)
    focus (go_wp2_with (go_at_call 37; (with_reducible refine (hB2 _ hb).mono ?_); clear c0 c1 c2 d0 d1 d2 l1 l2; rintro _ W ⟨rfl, hb⟩; obtain ⟨c0, c1, c2, d0, d1, d2, l1, l2⟩ := HX.out W hb; refine Stop.into ?_); refine Stop.out ?_)
    cases y2
    rotate_left
    ·(go_wp2_with fail; go_ret; exact ⟨by rw [HG.out]; rfl, HBC.out.trans (hb.mono HBC.out.size)⟩)
    focus (go_wp2_with (go_at_call 37; (with_reducible refine (hB3 _ hb).mono ?_); clear c0 c1 c2 d0 d1 d2 l1 l2; rintro _ W ⟨rfl, hb⟩; obtain ⟨c0, c1, c2, d0, d1, d2, l1, l2⟩ := HX.out W hb; refine Stop.into ?_); refine Stop.out ?_)
    cases y3
    rotate_left
    ·(go_wp2_with fail; go_ret; exact ⟨by rw [HG.out]; rfl, HBC.out.trans (hb.mono HBC.out.size)⟩)
    focus (go_wp2_with (go_at_call 37; (with_reducible refine (hB4 _ hb).mono ?_); clear c0 c1 c2 d0 d1 d2 l1 l2; rintro _ W ⟨rfl, hb⟩; obtain ⟨c0, c1, c2, d0, d1, d2, l1, l2⟩ := HX.out W hb; refine Stop.into ?_); refine Stop.out ?_)
    cases y4
    rotate_left
    ·(go_wp2_with fail; go_ret; exact ⟨by rw [HG.out]; rfl, HBC.out.trans (hb.mono HBC.out.size)⟩)
    focus (go_wp2_with (go_at_call 37; (with_reducible refine (hD1 _ hb).mono ?_); clear c0 c1 c2 d0 d1 d2 l1 l2; rintro _ W ⟨rfl, hb⟩; obtain ⟨c0, c1, c2, d0, d1, d2, l1, l2⟩ := HX.out W hb; refine Stop.into ?_); refine Stop.out ?_)
    cases z1
    rotate_left
    cases xk
    rotate_left
    ·(go_wp2_with fail; go_ret; exact ⟨by rw [HG.out]; rfl, HBC.out.trans (hb.mono HBC.out.size)⟩)
    all_goals
     focus (go_wp2_with (go_at_call 37; (with_reducible refine (hD2 _ hb).mono ?_); clear c0 c1 c2 d0 d1 d2 l1 l2; rintro _ W ⟨rfl, hb⟩; obtain ⟨c0, c1, c2, d0, d1, d2, l1, l2⟩ := HX.out W hb; refine Stop.into ?_); refine Stop.out ?_)
     cases z2
     rotate_left
     focus (go_wp2_with (go_at_call 39; (with_reducible refine (hV _ hb).mono ?_); clear c0 c1 c2 d0 d1 d2 l1 l2; rintro _ W ⟨rfl, hb⟩; obtain ⟨c0, c1, c2, d0, d1, d2, l1, l2⟩ := HX.out W hb; refine Stop.into ?_); refine Stop.out ?_)
     cases xv
     rotate_left
     ·(go_wp2_with fail; go_ret; exact ⟨by rw [HG.out]; rfl, HBC.out.trans (hb.mono HBC.out.size)⟩)
     all_goals
      focus (go_wp2_with (go_at_call 37; (with_reducible refine (hE1 _ hb).mono ?_); clear c0 c1 c2 d0 d1 d2 l1 l2; rintro _ W ⟨rfl, hb⟩; obtain ⟨c0, c1, c2, d0, d1, d2, l1, l2⟩ := HX.out W hb; refine Stop.into ?_); refine Stop.out ?_)
      cases z3
      rotate_left
      focus (go_wp2_with (go_at_call 37; (with_reducible refine (hE2 _ hb).mono ?_); clear c0 c1 c2 d0 d1 d2 l1 l2; rintro _ W ⟨rfl, hb⟩; obtain ⟨c0, c1, c2, d0, d1, d2, l1, l2⟩ := HX.out W hb; refine Stop.into ?_); refine Stop.out ?_)
      cases z4
      all_goals (go_wp2_with fail; go_ret; exact ⟨by rw [HG.out]; rfl, HBC.out.trans (hb.mono HBC.out.size)⟩)
end Go.Proofs.YtbcdaaobbebooaaGreatDoor
namespace Go.Proofs.YtbcdaaobbebooaaGreatDoor
set_option maxRecDepth 100000
set_option maxHeartbeats 20000000
open Go.RowKit Go.Tab Go.ChangeShapes
def FitK (l : List Tok) : Prop := l.length <= 140737488351232 /\ ∀ t ∈ l, t.text.size <= 140737488351232
theorem len3t {α : Type} {l : List α} (h : l.length = 3) : ∃ a b c, l = [a, b, c] := by
 match l, h with
 | [a, b, c], _ => exact ⟨a, b, c, rfl⟩
section
variable {H : Type} {enc : TypeId × Value -> H} {W : World} {base : Nat} {spare : Nat -> Bool} {held : Bool}
theorem toks_of : ∀ (l : List (DataW H)) (b off : Nat) (h : ∀ i (hi : i < l.length), ∃ t : Tok, W.cell? ⟨b, off + i * 3, none⟩ = some (.int .i64 t.kind) /\ W.cell? ⟨b, off + i * 3 + 1, none⟩ = some (.string t.text) /\ W.cell? ⟨b, off + i * 3 + 2, none⟩ = some (.int .i64 t.pos) /\ ((∀ m ∈ l[i].weights Tryz.prog 63, m <= reachBytes) -> t.text.size <= 140737488351232)),
  ∃ ts : List Tok, ts.length = l.length /\ (∀ j (hj : j < ts.length), W.cell? ⟨b, off + j * 3, none⟩ = some (.int .i64 ts[j].kind) /\ W.cell? ⟨b, off + j * 3 + 1, none⟩ = some (.string ts[j].text) /\ W.cell? ⟨b, off + j * 3 + 2, none⟩ = some (.int .i64 ts[j].pos)) /\ ((∀ m ∈ DataW.weightsAll Tryz.prog 63 l, m <= reachBytes) -> ∀ t ∈ ts, t.text.size <= 140737488351232)
 | [], b, off, h => ⟨[], rfl, fun j hj => absurd hj (by simp), fun _ t ht => by cases ht⟩
 | d :: r, b, off, h => by
  obtain ⟨t, h1, h2, h3, h4⟩ := h 0 (by simp)
  obtain ⟨ts, g1, g2, g4⟩ := toks_of r b (off + 3) (fun i hi => by
   obtain ⟨t, k1, k2, k3, k4⟩ := h (i + 1) (by simp; omega); have e : off + (i + 1) * 3 = off + 3 + i * 3 := by omega
   rw [e] at k1 k2 k3
   exact ⟨t, k1, k2, k3, by simpa using k4⟩)
  refine ⟨t :: ts, by simp [g1], fun j hj => ?_, fun hw u hu => ?_⟩
  ·cases j with
   | zero => simp only [Nat.zero_mul, Nat.add_zero] at h1 h2 h3 ⊢; exact ⟨h1, h2, h3⟩
   | succ j =>
    have e : off + (j + 1) * 3 = off + 3 + j * 3 := by omega
    rw [e]; exact g2 j (by simpa using hj)
  ·simp only [DataW.weightsAll, List.mem_append] at hw
   rcases List.mem_cons.1 hu with rfl | hu
   ·exact h4 (fun m hm => hw m (.inl (by simpa using hm)))
   ·exact g4 (fun m hm => hw m (.inr hm)) u hu
theorem Tryz.byTok : Tryz.prog.bytesOf 63 = 32 := by kernel_rfl
theorem Tryz.uTok : ∃ f0 f1 f2 : Field, Tryz.prog.underlying 63 = some (.struct #[f0, f1, f2]) /\ f0.type = 3 /\ f0.offset = 0 /\ f1.type = 9 /\ f1.offset = 1 /\ f2.type = 3 /\ f2.offset = 2 :=
 ⟨_, _, _, Tryz.underlying63, rfl, rfl, rfl, rfl, rfl, rfl⟩
theorem Tryz.ctInt : Tryz.prog.cellsOf 3 = 1 := by kernel_rfl
theorem Tryz.ctStr : Tryz.prog.cellsOf 9 = 1 := by kernel_rfl
theorem Tryz.ctTok : Tryz.prog.cellsOf 63 = 3 := by kernel_rfl
theorem tok_open (n : Nat) (cs : List Value) (x : DataW H × List MemPlace) (h : DataW.trod enc Tryz.prog W base spare held n 63 cs = some x) : ∃ t : Tok, cs = [.int .i64 t.kind, .string t.text, .int .i64 t.pos] /\ ((∀ m ∈ x.1.weights Tryz.prog 63, m <= reachBytes) -> t.text.size <= 140737488351232) := by
 obtain ⟨f0, f1, f2, hu, t0, o0, t1, o1, t2, o2⟩ := Tryz.uTok; obtain ⟨xs, n1, rfl, rfl, hlen, hxl, hf⟩ := DataW.trod_struct hu h; rw [Tryz.ctTok] at hlen; obtain ⟨c0, c1, c2, rfl⟩ := len3t hlen; obtain ⟨y0, y1, y2, rfl⟩ := len3t (by simpa using hxl); have e0 := hf 0 f0 rfl; have e1 := hf 1 f1 rfl; have e2 := hf 2 f2 rfl; rw [t0, o0, Tryz.ctInt] at e0; rw [t1, o1, Tryz.ctStr] at e1; rw [t2, o2, Tryz.ctInt] at e2; simp at e0 e1 e2
 obtain ⟨k0, g0, rfl, -⟩ := DataW.trod_int Tryz.underlying3 e0; obtain ⟨name, g1, rfl, hname⟩ := DataW.trod_string Tryz.underlying9 e1; obtain ⟨k2, g2, rfl, -⟩ := DataW.trod_int Tryz.underlying3 e2; simp at g0 g1 g2
 subst g0 g1 g2; refine ⟨⟨k0, name, k2⟩, rfl, fun hw => ?_⟩; simp only [DataW.weights, hu, List.map_cons, List.map_nil, DataW.weightsEach, t0, t1, t2, List.mem_append, List.mem_cons, List.not_mem_nil, or_false, false_or] at hw; have e1 : name.size = name.data.toList.length := rfl; have k5 := hw name.data.toList.length (by simp); unfold reachBytes at k5; show name.size <= _; omega
theorem toks_open (n : Nat) (c : Value) (x : DataW H × List MemPlace) (h : DataW.trod enc Tryz.prog W base spare held n 22 [c] = some x) : ∃ l, ToksAt W c l /\ ((∀ m ∈ x.1.weights Tryz.prog 22, m <= reachBytes) -> FitK l) := by
 rcases DataW.trod_slice Tryz.underlying22 h with ⟨h1, h2⟩ | ⟨a, ln, cp, elems, rest, n3, hn3, h1, hx, hb, hl, hm, hel, hcell, -, -⟩
 ·simp at h1
  subst h1; exact ⟨[], ToksAt.nil, fun _ => ⟨by simp, fun t ht => by cases ht⟩⟩
 ·simp at h1
  subst h1
  have each : ∀ i, i < ln -> ∃ cs', W.cells? base (a.add (i * 3)) 3 = some cs' /\ DataW.trod enc Tryz.prog W base spare held n3 63 cs' = some (elems.getD i (.nil, [])) := fun i hi => by
   have := hcell i hi; rw [Tryz.ctTok, List.getElem?_eq_getElem (by omega)] at this; obtain ⟨cs', r1, r2⟩ := Option.bind_eq_some_iff.1 this; exact ⟨cs', r1, by rw [r2, List.getD_eq_getElem?_getD, List.getElem?_eq_getElem (by omega)]; rfl⟩
  by_cases h0 : ln = 0
  ·subst h0
   exact ⟨[], ⟨some a, cp, rfl, hl, hm, (fun h => by cases h), fun x _ h => absurd rfl h⟩, fun _ => ⟨by simp, fun t ht => by cases ht⟩⟩
  ·have hsp : a.spot = none := by
    obtain ⟨cs', r1, r2⟩ := each 0 (by omega); obtain ⟨l1, l2⟩ := cells_at r1; obtain ⟨u0, u1, u2, rfl⟩ := len3t l1; have := World.cell?_spot (l2 0 u0 rfl)
    simpa [Addr.add] using this
   obtain ⟨bb, off, sp⟩ := a; simp only at hsp; subst hsp
   have hlt : bb < W.heap.size := by
    obtain ⟨cs', r1, r2⟩ := each 0 (by omega); obtain ⟨l1, l2⟩ := cells_at r1; obtain ⟨u0, u1, u2, rfl⟩ := len3t l1; have := World.block_lt_of_cell? W _ (l2 0 u0 rfl)
    simpa [Addr.add] using this
   obtain ⟨ts, r1, r2, r4⟩ := toks_of (H := H) (W := W) (elems.map (·.1)) bb off (fun i hi => by
    simp at hi
    obtain ⟨cs', r1, r2⟩ := each i (by omega); obtain ⟨l1, l2⟩ := cells_at r1; obtain ⟨t, rfl, v3⟩ := tok_open n3 cs' _ r2; have q0 := l2 0 _ rfl; have q1 := l2 1 _ rfl; have q2 := l2 2 _ rfl; rw [Addr.add_lit, Addr.add_lit] at q0 q1 q2; refine ⟨t, q0, q1, q2, ?_⟩; rw [List.getD_eq_getElem?_getD, List.getElem?_eq_getElem hi] at v3
    simpa using v3)
   simp at r1
   refine ⟨ts, ⟨some ⟨bb, off, none⟩, cp, by rw [r1, hel], by omega, hm, (fun h => by cases h), (fun x hx _ => by cases hx; exact ⟨rfl, hlt, r2⟩)⟩, fun hw => ?_⟩; rw [hx] at hw; simp only [DataW.weights, Tryz.underlying22, Tryz.byTok, List.mem_cons, List.mem_append] at hw; refine ⟨?_, r4 (fun m hm => hw m (.inr (.inl hm)))⟩; have := hw _ (.inl rfl); simp only [List.length_map] at this; unfold reachBytes at this; omega
end
end Go.Proofs.YtbcdaaobbebooaaGreatDoor
namespace Go.Proofs.YtbcdaaobbebooaaGreatDoor
set_option maxRecDepth 100000
set_option maxHeartbeats 20000000
open Go.RowKit Go.Tab
theorem check_any (s : ByteArray) (w : World) (hT : LexT w) (hs : s.size <= 800000) (hn : (rowsP s.data.toList).length <= 1000000) (hF : (linesP s.data.toList).2.2 = 0 -> ∀ r ∈ rowsP s.data.toList, OkD s.data.toList r) :
  Calls Tryz.prog 29 #[.string s] w fun e w' => e = .returned (.int .i64 (checkP s.data.toList)) /\ Below w.heap.size w w' := by
 have hB := broken_any s w hT hs hn hF; have HC : Hid (checkP s.data.toList = (brokenP s.data.toList).head?.getD 0) := Lib.hid rfl; generalize brokenP s.data.toList = E at *; clear hF hn; go_enter Tryz.func29, Tryz.ntmps29; go_wp2_with fail; refine hB.mono ?_; rintro _ w2 ⟨v, rfl, hown, hb2⟩; clear hB; have HB := Lib.hid hb2; obtain ⟨oa, oc, rfl, -⟩ := hown.row.len; have HR := Lib.hid hown.row; clear hown hb2; go_wp2_with fail; go_loopw [8] (fun i wr => i = .int .i64 0 /\ wr = w2) (fun i _ => 0)
 case atStart => exact ⟨rfl, rfl⟩
 case round =>
  obtain ⟨rfl, rfl⟩ := hrel
  cases E with
  | nil =>
   go_wp2_with fail; go_ret; rw [HC.out]; exact ⟨rfl, HB.out⟩
  | cons x E =>
   obtain ⟨b, off, rfl, hlt, hc⟩ := HR.out.at (j := 0) (by simp); have hc0 := hc 0 (by simp); simp only [Nat.add_zero, List.getElem_cons_zero] at hc0; have e1 : (0 : Int) < (((x :: E).length : Nat) : Int) := by simp
   clear hc; go_wp2_with fail; go_ret; rw [HC.out]; exact ⟨rfl, HB.out⟩
theorem numbers_same (w : World) (u v : Value) (L : List Int) (h1 : RowOf intZ w u L) (h2 : RowOf intZ w v L) (hL : L.length <= 1000) :
  Calls Tryz.prog 30 #[u, v] w fun e w' => e = .returned (.bool true) /\ Below w.heap.size w w' := by
 obtain ⟨a, c, rfl, -⟩ := h1.len; obtain ⟨b, d, rfl, -⟩ := h2.len; have H1 := Lib.hid h1; have H2 := Lib.hid h2; clear h1 h2; go_enter Tryz.func30, Tryz.ntmps30; go_wp2_with fail; go_loopw [5] (fun i wr => ∃ k : Nat, k <= L.length /\ i = .int .i64 (k : Int) /\ Below w.heap.size w wr) (fun i _ => L.length - (intOf i).toNat)
 case atStart => exact ⟨0, Nat.zero_le _, rfl, Below.refl _ _⟩
 case round =>
  obtain ⟨k, hk, rfl, hb⟩ := hrel; have HB := Lib.hid hb
  by_cases hkl : k < L.length
  ·obtain ⟨b1, o1, rfl, -, hc⟩ := (H1.out.below hb (Nat.le_refl _)).at hkl
   obtain ⟨b2, o2, rfl, -, hd⟩ := (H2.out.below hb (Nat.le_refl _)).at hkl; have hck := hc k hkl; have hdk := hd k hkl; generalize L[k] = x at *; have i1 : (0 : Int) <= (k : Int) := by omega
   have i2 : (k : Int) < (L.length : Int) := by omega
   have hx : ((x : Int) != x) = false := by simp
   clear hc hd hb; go_wp2_with fail; go_quiet (fail)
   go_wp2_with fail; go_roundw
   case rel => exact ⟨k + 1, hkl, by go_num, below_drewN HB.out nq⟩
   case measure => simp [intOf]; omega
  ·obtain rfl : k = L.length := by omega
   go_wp2_with fail; go_ret; exact ⟨rfl, HB.out⟩
theorem ok_of {l : Bs} (h : fitsB l (rowsP l) = true) (h2 : ((rowsP l).all fun r => decide (r.toks.length <= 1000000) && (decide (-1000000 <= r.dep) && decide (r.dep <= 1000000))) = true) : ∀ r ∈ rowsP l, OkD l r := by
 intro r hr; have q := List.all_eq_true.1 h2 r hr; simp only [Bool.and_eq_true, decide_eq_true_eq] at q; exact ⟨fits_of h r hr, q.1, q.2.1, q.2.2⟩
theorem check_abc : checkP ex15a = 1 /\ checkP ex15b = 5 /\ checkP ex15c = 0 /\ (rowsP ex15a).length <= 1000000 /\ (rowsP ex15b).length <= 1000000 /\ (rowsP ex15c).length <= 1000000 := by
 refine ⟨by kernel_rfl, by kernel_rfl, by kernel_rfl, ?_, ?_, ?_⟩
 ·rw [show (rowsP ex15a).length = 1 by kernel_rfl]; decide
 ·rw [show (rowsP ex15b).length = 1 by kernel_rfl]; decide
 ·rw [show (rowsP ex15c).length = 1 by kernel_rfl]; decide
theorem ok_a : ∀ r ∈ rowsP ex15a, OkD ex15a r := ok_of broken_a.2 (by kernel_rfl)
theorem ok_b : ∀ r ∈ rowsP ex15b, OkD ex15b r := ok_of broken_b.2 (by kernel_rfl)
theorem ok_c : ∀ r ∈ rowsP ex15c, OkD ex15c r := ok_of broken_c.2 (by kernel_rfl)
theorem wakes15_any (w : World) (hT : LexT w) : Calls Tryz.prog 9 #[] w fun e w' => e = .returned (.bool true) /\ Below w.heap.size w w' := by
 have hA := fun W (h : LexT W) => check_any (strL ex15a) W h (by decide) check_abc.2.2.2.1 (fun _ => ok_a); have hB := fun W (h : LexT W) => check_any (strL ex15b) W h (by decide) check_abc.2.2.2.2.1 (fun _ => ok_b); have hC := fun W (h : LexT W) => check_any (strL ex15c) W h (by decide) check_abc.2.2.2.2.2 (fun _ => ok_c); have hD := fun W (h : LexT W) => broken_any (strL ex15b) W h (by decide) check_abc.2.2.2.2.1 (fun _ => ok_b); simp only [strL_list, check_abc.1, check_abc.2.1, check_abc.2.2.1, broken_b.1] at hA hB hC hD; have e1 : strL ex15a = ⟨#[97, 32, 61, 32, 49]⟩ := rfl; have e2 : strL ex15b = ⟨#[97, 61, 49, 10]⟩ := rfl; have e3 : strL ex15c = ⟨#[97, 32, 61, 32, 49, 10]⟩ := rfl; rw [e1] at hA; rw [e2] at hB hD; rw [e3] at hC; clear e1 e2 e3; have HT := Lib.hid hT; clear hT; go_enter Tryz.func9, Tryz.ntmps9; go_wp2_with fail; refine (hA w HT.out).mono ?_; rintro _ w1 ⟨rfl, hb1⟩; have H1 := Lib.hid hb1; clear hA hb1; go_wp2_with fail; refine (hB w1 (HT.out.below H1.out)).mono ?_; rintro _ w2 ⟨rfl, hb2⟩; have H2 := Lib.hid (below_more H1.out hb2); clear hB hb2; go_wp2_with fail; refine (hD w2 (HT.out.below H2.out)).mono ?_; rintro _ w3 ⟨v, rfl, hown, hb3⟩; have H3 := Lib.hid (below_more H2.out hb3); have hn := numbers_same (w3.alloc (.cells #[.int .i64 5, .int .i64 6] 3)) v (.slice (some ⟨w3.heap.size, 0, none⟩) 2 2) [5, 6] (hown.row.below ((Below.refl _ w3).alloc (Nat.le_refl _) _) (Nat.le_refl _)) (OwnOf.lit (f := intZ) (E := 3) (base := 0) (w := w3) [5, 6] (Nat.zero_le _) (by simp [maxLen])).row (by decide)
 have H4 := Lib.hid (H3.out.alloc H3.out.size (.cells #[.int .i64 5, .int .i64 6] 3)); clear hD hown hb3; go_wp2_with fail; refine hn.mono ?_; rintro _ w4 ⟨rfl, hb4⟩; have H5 := Lib.hid (below_more H4.out hb4); clear hn hb4; go_wp2_with fail; refine (hC w4 (HT.out.below H5.out)).mono ?_; rintro _ w5 ⟨rfl, hb5⟩; have H6 := Lib.hid (below_more H5.out hb5); clear hC hb5; go_wp2_with fail; go_ret; exact ⟨rfl, H6.out⟩
theorem LookGaps_walk (a0 : Value) (l0 : List Tok) (a1 : Int) (w : World) (w0 : ToksAt w a0 l0) (w1 : (Lit.int .i64 a1).wf = true) (hT : LexT w) (f0 : FitK l0) :
  Calls Tryz.prog 3 #[a0, .int .i64 a1] w fun e w' => e = .returned (.bool true) /\ Below w.heap.size w w' := by
 have hW := wakes15_any w hT; have HV0 := Lib.hid w0; obtain ⟨a, c, rfl, hlc, hcm, -⟩ := w0.len; unfold maxLen at hcm; have HWF := Lib.hid w1; clear hT w0 f0 w1; go_enter Tryz.func3, Tryz.ntmps3; go_wp2_with fail; refine hW.mono ?_; rintro _ w2 ⟨rfl, hb2⟩; have HB2 := Lib.hid hb2; clear hW hb2
 by_cases hbig : 300 < l0.length
 ·go_wp2_with fail
  go_ret; exact ⟨rfl, HB2.out⟩
 ·have hl : l0.length <= 1000000 := by omega
  go_wp2_with fail; go_loopw [13] (fun i wr => ∃ k : Nat, k <= l0.length /\ i = .int .i64 (k : Int) /\ Below w.heap.size w wr) (fun i _ => l0.length - (intOf i).toNat)
  case atStart => exact ⟨0, Nat.zero_le _, rfl, HB2.out⟩
  case round =>
   clear HB2; obtain ⟨k, hk, rfl, hb⟩ := hrel; have HB := Lib.hid hb; clear hb
   by_cases hkl : k < l0.length
   ·have hG := lkGap_any wr _ l0 (HV0.out.below HB.out (Nat.le_refl _)) hl (k : Int) (wf_nat (by omega))
    have hR := fun W (hW : Below w.heap.size w W) => r15Gap_any W _ l0 (HV0.out.below hW (Nat.le_refl _)) hl (k : Int) (wf_nat (by omega)); simp only [Int.toNat_natCast] at hG hR; generalize gapN l0 k = g at *; have hg : (((g : Nat) : Int) != ((g : Nat) : Int)) = false := by simp
    go_wp2_with fail; refine hG.mono ?_; rintro _ w3 ⟨rfl, hb3⟩; have H3 := Lib.hid (below_more HB.out hb3); clear hG hb3; go_wp2_with fail; refine (hR w3 H3.out).mono ?_; rintro _ w4 ⟨rfl, hb4⟩; have H4 := Lib.hid (below_more H3.out hb4); clear hR hb4; go_wp2_with fail; go_roundw
    case rel => exact ⟨k + 1, hkl, by go_num, H4.out⟩
    case measure => simp [intOf]; omega
   ·obtain rfl : k = l0.length := by omega
    have hG := lkGap_any wr _ l0 (HV0.out.below HB.out (Nat.le_refl _)) hl a1 HWF.out; have hR := fun W (hW : Below w.heap.size w W) => r15Gap_any W _ l0 (HV0.out.below hW (Nat.le_refl _)) hl a1 HWF.out; generalize gapN l0 a1.toNat = g at *; have hg : (((g : Nat) : Int) == ((g : Nat) : Int)) = true := by simp
    go_wp2_with fail; refine hG.mono ?_; rintro _ w3 ⟨rfl, hb3⟩; have H3 := Lib.hid (below_more HB.out hb3); clear hG hb3; go_wp2_with fail; refine (hR w3 H3.out).mono ?_; rintro _ w4 ⟨rfl, hb4⟩; have H4 := Lib.hid (below_more H3.out hb4); clear hR hb4; go_wp2_with fail; go_ret; exact ⟨rfl, H4.out⟩
end Go.Proofs.YtbcdaaobbebooaaGreatDoor
namespace Go.Tab
set_option maxRecDepth 100000
set_option maxHeartbeats 20000000
open Go.Lib
def LaidAt (P : Program) (W : World) (n : String) (d : DataW Unit) : Prop :=
 ∃ g t cs fuel p, P.globalNamed n = some g /\ (P.globals[g]?).map (·.type) = some t /\ W.var? P n = some cs /\ DataW.trod (fun _ => ()) P W 0 (fun _ => true) false fuel t cs.toList = some (d, p)
theorem laid_vars {P : Program} {W : World} : ∀ {L : List (String × DataW Unit)} {ps : List MemPlace}, DataW.LaidVars P W L ps -> ∀ n d, (n, d) ∈ L -> LaidAt P W n d
 | [], _, _, _, _, h => by cases h
 | (n', d') :: L, _, h0, n, d, h => by
  obtain ⟨g, t, cs, fuel, p, q, h1, h2, h3, h4, h5, _⟩ := h0; rcases List.mem_cons.1 h with h | h
  ·cases h; exact ⟨g, t, cs, fuel, p, h1, h2, h3, h4⟩
  ·exact laid_vars h5 n d h
theorem laid_of_met {P : Program} {W : World} {L : List (String × DataW Unit)} (h : laidMet P L W) {n : String} {d : DataW Unit} (hm : (n, d) ∈ L) : LaidAt P W n d := by
 obtain ⟨ps, h1, _⟩ := h; exact laid_vars h1 n d hm
theorem LaidAt.tab {P : Program} {W : World} {name : String} {k : IntKind} {zs : List Int} {g : Nat} {t e : TypeId} {n : Nat}
  (hg : P.globalNamed name = some g) (hty : (P.globals[g]?).map (·.type) = some t) (ht : P.underlying t = some (.array n e)) (he : P.underlying e = some (.int k)) (hce : P.cellsOf e = 1) (hct : P.cellsOf t = n)
  (h : LaidAt P W name (tabData k zs)) : TabIs P W name k zs := by
 obtain ⟨g', t', cs, fuel, p, hg', ht', hvar, hd⟩ := h; obtain rfl := Option.some.inj (hg.symm.trans hg'); obtain rfl := Option.some.inj (hty.symm.trans ht'); unfold TabIs; rw [hvar, <- cells_of_tab ht he hce hct hd]
theorem cells_of_tabs {H : Type} {enc : TypeId × Value -> H} {P : Program} {w : World} {base : Nat} {sp : Nat -> Bool} {held : Bool} {fuel : Nat} {t e i : TypeId} {n m : Nat} {k : IntKind} {cs : List Value} {zss : List (List Int)} {p : List MemPlace}
  (ht : P.underlying t = some (.array n e)) (he : P.underlying e = some (.array m i)) (hi : P.underlying i = some (.int k)) (hci : P.cellsOf i = 1) (hce : P.cellsOf e = m) (hct : P.cellsOf t = n * m)
  (h : DataW.trod enc P w base sp held fuel t cs = some (.agg (zss.map fun zs => tabData k zs), p)) : ∀ a (ha : a < zss.length), ((cs.drop (a * m)).take m) = zss[a].map fun z => Value.int k z := by
 cases fuel with
 | zero => simp [DataW.trod] at h
 | succ fuel =>
  simp only [DataW.trod, ht, hce] at h; split at h
  ·rename_i hl
   obtain ⟨xs, hm, hx⟩ := Option.map_eq_some_iff.1 h
   have hxs : xs.map (·.1) = zss.map fun zs => (tabData k zs : DataW H) := by
    have := congrArg Prod.fst hx
    simpa using this
   have hxl : xs.length = n := by simpa using mapM_length hm
   have hzl : zss.length = n := by
    have := congrArg List.length hxs; simp at this
    omega
   intro a ha; obtain ⟨b, hb, hf⟩ := mapM_at hm a a (by simp [hzl ▸ ha]); have h2 : (xs.map (·.1))[a]? = some b.1 := by simp [hb]
   rw [hxs] at h2; simp only [List.getElem?_map] at h2; rw [List.getElem?_eq_getElem ha] at h2; have h3 : b.1 = tabData k zss[a] := (Option.some.inj h2).symm; have h4 : DataW.trod enc P w base sp held fuel e ((cs.drop (a * m)).take m) = some (tabData k zss[a], b.2) := by rw [hf, <- h3]
   exact cells_of_tab he hi hci hce h4
  ·cases h
theorem LaidAt.tabs {P : Program} {W : World} {name : String} {k : IntKind} {zss : List (List Int)} {g : Nat} {t e i : TypeId} {n m : Nat}
  (hg : P.globalNamed name = some g) (hty : (P.globals[g]?).map (·.type) = some t) (ht : P.underlying t = some (.array n e)) (he : P.underlying e = some (.array m i)) (hi : P.underlying i = some (.int k)) (hci : P.cellsOf i = 1) (hce : P.cellsOf e = m) (hct : P.cellsOf t = n * m)
  (h : LaidAt P W name (.agg (zss.map fun zs => tabData k zs))) (a b : Nat) (ha : a < zss.length) (hb : b < zss[a].length) (hbm : b < m) : W.cell? ⟨g, a * m + b, none⟩ = some (.int k zss[a][b]) := by
 obtain ⟨g', t', cs, fuel, p, hg', ht', hvar, hd⟩ := h; obtain rfl := Option.some.inj (hg.symm.trans hg'); obtain rfl := Option.some.inj (hty.symm.trans ht'); have h1 := cells_of_tabs ht he hi hci hce hct hd a ha
 have h2 : cs[a * m + b]? = some (.int k zss[a][b]) := by
  have := congrArg (·[b]?) h1; simp only [List.getElem?_take, List.getElem?_drop, List.getElem?_map] at this; rw [if_pos hbm, List.getElem?_eq_getElem hb] at this
  simpa using this
 have h3 := World.var?_cell hg hvar (a * m + b); rw [h3, h2]
end Go.Tab
namespace Go.Tab
set_option maxRecDepth 100000
set_option maxHeartbeats 20000000
theorem met_of {P : Program} {L : List (String × DataW Unit)} {W : World} (h : laidMetH P L W) (hf : (L.filter fun x => x.2.handleName?.isSome) = []) : laidMet P L W := by
 unfold laidMetH at h; rw [hf] at h; exact h
end Go.Tab
namespace Go.Tab
set_option maxRecDepth 100000
set_option maxHeartbeats 20000000
open Go.Lib
theorem cells_of_strs {H : Type} {enc : TypeId × Value -> H} {P : Program} {w : World} {base : Nat} {sp : Nat -> Bool} {held : Bool} {fuel : Nat} {t e : TypeId} {n : Nat} {cs : List Value} {zs : List (List UInt8)} {p : List MemPlace}
  (ht : P.underlying t = some (.array n e)) (he : P.underlying e = some .string) (hce : P.cellsOf e = 1) (hct : P.cellsOf t = n)
  (h : DataW.trod enc P w base sp held fuel t cs = some (.agg (zs.map fun z => (.lit (.string z) : DataW H)), p)) : ∀ i (hi : i < zs.length), cs[i]? = some (Value.string ⟨zs[i].toArray⟩) := by
 cases fuel with
 | zero => simp [DataW.trod] at h
 | succ fuel =>
  simp only [DataW.trod, ht, hce, hct, Nat.mul_one] at h; split at h
  ·rename_i hl
   obtain ⟨xs, hm, hx⟩ := Option.map_eq_some_iff.1 h
   have hxs : xs.map (·.1) = zs.map fun z => (DataW.lit (.string z) : DataW H) := by
    have := congrArg Prod.fst hx
    simpa using this
   have hxl : xs.length = n := by simpa using mapM_length hm
   have hzl : zs.length = n := by
    have := congrArg List.length hxs; simp at this
    omega
   intro i hi; obtain ⟨b, hb, hf⟩ := mapM_at hm i i (by simp [hzl ▸ hi]); obtain ⟨s, hc, rfl, _⟩ := DataW.trod_string he hf
   have h1 : cs[i]? = some (.string s) := by
    have := congrArg (·[0]?) hc
    simpa [List.getElem?_take, List.getElem?_drop] using this
   have h2 : (xs.map (·.1))[i]? = some (DataW.lit (.string s.data.toList) : DataW H) := by simp [hb]
   rw [hxs] at h2; simp only [List.getElem?_map, List.getElem?_eq_getElem hi, Option.map_some, Option.some.injEq, DataW.lit.injEq, Lit.string.injEq] at h2; rw [h1, h2]
  ·cases h
theorem LaidAt.strs {P : Program} {W : World} {name : String} {zs : List (List UInt8)} {g : Nat} {t e : TypeId} {n : Nat}
  (hg : P.globalNamed name = some g) (hty : (P.globals[g]?).map (·.type) = some t) (ht : P.underlying t = some (.array n e)) (he : P.underlying e = some .string) (hce : P.cellsOf e = 1) (hct : P.cellsOf t = n)
  (h : LaidAt P W name (.agg (zs.map fun z => .lit (.string z)))) (i : Nat) (hi : i < zs.length) : W.cell? ⟨g, i, none⟩ = some (.string ⟨zs[i].toArray⟩) := by
 obtain ⟨g', t', cs, fuel, p, hg', ht', hvar, hd⟩ := h; obtain rfl := Option.some.inj (hg.symm.trans hg'); obtain rfl := Option.some.inj (hty.symm.trans ht'); have h2 := cells_of_strs ht he hce hct hd i hi; have h3 := World.var?_cell hg hvar i; rw [h3]
 simpa using h2
def flatS : Nat -> DataW Unit -> List Value
 | 0, _ => []
 | _ + 1, .lit (.int k z) => [.int k z]
 | _ + 1, .lit (.string s) => [.string ⟨s.toArray⟩]
 | n + 1, .agg xs => xs.flatMap (flatS n)
 | _, _ => []
def layVarS (P : Program) (h : Array Obj) (nd : String × DataW Unit) : Array Obj :=
 match P.globalNamed nd.1, flatS 4 nd.2 with
 | some g, v :: vs => h.modify g fun o => match o with
  | .cells _ t f => .cells (v :: vs).toArray t f
  | o => o
 | _, _ => h
def layAllS (P : Program) (L : List (String × DataW Unit)) (h : Array Obj) : Array Obj := L.foldl (layVarS P) h
end Go.Tab
namespace Go.Proofs.YtbcdaaobbebooaaGreatDoor
set_option maxRecDepth 100000
set_option maxHeartbeats 20000000
open Go.RowKit Go.Tab
def stepsZ : List (List Int) := [[1, 9, 2, 3, 9, 9, 9], [9, 9, 2, 3, 9, 9, 9], [9, 9, 9, 9, 4, 6, 9], [9, 9, 3, 3, 4, 6, 9], [9, 9, 5, 5, 9, 9, 9], [9, 9, 5, 5, 9, 6, 9], [7, 7, 8, 8, 9, 9, 9], [9, 9, 8, 8, 9, 9, 9], [9, 9, 8, 8, 9, 9, 9]]
theorem steps_are : ∀ j : Fin 63, ((stepsZ.getD (j.val / 7) []).getD (j.val % 7) 0) = ((stepsN.getD j.val 9 : Nat) : Int) := by decide +kernel
theorem gSteps : Tryz.prog.globalNamed "tabularium/num.steps" = some 3 := by kernel_rfl
theorem tSteps : (Tryz.prog.globals[3]?).map (·.type) = some 203 := by kernel_rfl
theorem c1 : Tryz.prog.cellsOf 3 = 1 := by kernel_rfl
theorem c7 : Tryz.prog.cellsOf 202 = 7 := by kernel_rfl
theorem c63 : Tryz.prog.cellsOf 203 = 9 * 7 := by kernel_rfl
theorem dSteps : (Rows.laid_tabularium_num_steps : DataW Unit) = .agg (stepsZ.map fun zs => Lib.tabData .i64 zs) := by kernel_rfl
theorem rows7 : ∀ a : Fin 9, (stepsZ.getD a.val []).length = 7 := by decide +kernel
theorem gTab : Tryz.prog.globalNamed "tabularium/utf.sizes" = some 1 := by kernel_rfl
theorem gTabType : (Tryz.prog.globals[1]?).map (·.type) = some 192 := by kernel_rfl
theorem cellsTab : Tryz.prog.cellsOf 192 = 32 := by kernel_rfl
def sizesZ : List Int := [1, 1, 1, 1, 1, 1, 1, 1, 1, 1, 1, 1, 1, 1, 1, 1, 0, 0, 0, 0, 0, 0, 0, 0, 2, 2, 2, 2, 3, 3, 4, 0]
theorem sizes_are : ∀ j : Fin 32, sizesZ.getD j.val 0 = ((sizeOf8 (8 * j.val) : Nat) : Int) := by decide +kernel
theorem dSizes : (Rows.laid_tabularium_utf_sizes : DataW Unit) = Lib.tabData .i64 sizesZ := by kernel_rfl
theorem gDbl : Tryz.prog.globalNamed "tabularium/lex.doubles" = some 0 := by kernel_rfl
theorem tDbl : (Tryz.prog.globals[0]?).map (·.type) = some 186 := by kernel_rfl
theorem cStr1 : Tryz.prog.cellsOf 9 = 1 := by kernel_rfl
theorem c6 : Tryz.prog.cellsOf 186 = 6 := by kernel_rfl
theorem dDbl : (Rows.laid_tabularium_lex_doubles : DataW Unit) = .agg (dbls.map fun z => .lit (.string z)) := by kernel_rfl
theorem dbl6 : dbls.length = 6 := by decide +kernel
theorem lexT_of {L : List (String × DataW Unit)} {W : World} (hL : laidMetH Tryz.prog L W) (hf : (L.filter fun x => x.2.handleName?.isSome) = []) (hsh : W.ShapedOpen Tryz.prog)
  (h1 : ("tabularium/utf.sizes", Rows.laid_tabularium_utf_sizes) ∈ L) (h2 : ("tabularium/num.steps", Rows.laid_tabularium_num_steps) ∈ L) (h3 : ("tabularium/lex.doubles", Rows.laid_tabularium_lex_doubles) ∈ L) : LexT W := by
 have met := met_of hL hf; have l1 := laid_of_met met h1; have l2 := laid_of_met met h2; have l3 := laid_of_met met h3; rw [dSizes] at l1; rw [dSteps] at l2; rw [dDbl] at l3; refine ⟨fun j hj => ?_, fun j hj => ?_, fun j hj => ?_, ?_⟩
 ·have t := l1.tab gTab gTabType Tryz.underlying192 Tryz.underlying3 c1 cellsTab
  have hc := t.cell gTab j (by simpa [sizesZ] using hj); rw [hc, show sizesZ.getD j 0 = _ from sizes_are ⟨j, hj⟩]
 ·have ha : j / 7 < stepsZ.length := by show j / 7 < 9; omega
  have hg : stepsZ.getD (j / 7) [] = stepsZ[j / 7] := by rw [List.getD_eq_getElem?_getD, List.getElem?_eq_getElem ha]; rfl
  have hr := rows7 ⟨j / 7, ha⟩; simp only [hg] at hr; have hb : j % 7 < (stepsZ[j / 7]).length := by rw [hr]; omega
  have h3 := l2.tabs gSteps tSteps Tryz.underlying203 Tryz.underlying202 Tryz.underlying3 c1 c7 c63 (j / 7) (j % 7) ha hb (by omega); rw [show j / 7 * 7 + j % 7 = j by omega] at h3; rw [h3]; have h4 := steps_are ⟨j, hj⟩; simp only [hg] at h4; rw [List.getD_eq_getElem?_getD, List.getElem?_eq_getElem hb] at h4; rw [<- h4]; rfl
 ·have h := l3.strs gDbl tDbl Tryz.underlying186 Tryz.underlying9 cStr1 c6 j (by rw [dbl6]; exact hj)
  rw [h, List.getD_eq_getElem?_getD, List.getElem?_eq_getElem (by rw [dbl6]; exact hj)]; rfl
 ·exact cell_of_shapedOpen_int (t := 3) (zero := #[.int .i64 0]) hsh (by decide +kernel) (by kernel_rfl) rfl (by kernel_rfl) (by kernel_rfl) Tryz.underlying3
theorem tab_of_LookGaps {W : World} (hL : laidMetH Tryz.prog Rows.lookGapsRow.laid W) (hsh : W.ShapedOpen Tryz.prog) : LexT W := lexT_of hL (by kernel_rfl) hsh (.tail _ (.head _)) (.tail _ (.tail _ (.head _))) (.tail _ (.tail _ (.tail _ (.head _))))
end Go.Proofs.YtbcdaaobbebooaaGreatDoor
