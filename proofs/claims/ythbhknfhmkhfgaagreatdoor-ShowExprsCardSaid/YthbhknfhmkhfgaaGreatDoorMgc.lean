/- Texts of this claim, one behind the other: UtfA, UtfB, UtfC, UtfD, QuoA, QuoB, QuoC, UtfG, UtfH, UtfI, UtfK, QuoD. -/
import Derived.Test.YthbhknfhmkhfgaaGreatDoorMga
import Derived.Test.YthbhknfhmkhfgaaGreatDoorMgb
import Derived.Test.YthbhknfhmkhfgaaGreatDoorRows
import Derived.Laws.BitsAllLaws
import Derived.Laws.IdiomStrings
import Derived.Deep.QuietTactic
import Derived.BigQuiet
import Derived.RangeFuncNested
import Derived.RangeFuncBound
import Derived.RangeFuncBox
import Derived.RangeFuncCalls
import Derived.RangeFuncLeaves
import Derived.Shelf.Abstract
import Derived.Shelf.RegionOpen
import Derived.WalkKit
import Derived.OwnWalkIn
import Derived.TacticsInMore
import Derived.LoopNIn
import Derived.LoopIn
import Derived.Maps.AppendAt
import Derived.Sort.QuietIn
import Derived.RegionIn
set_option linter.unusedSimpArgs false
set_option linter.unusedVariables false
namespace Go.Proofs.YthbhknfhmkhfgaaGreatDoor
set_option maxRecDepth 100000
set_option maxHeartbeats 20000000
open Go.RowKit Go.Tab
def Tab (w : World) : Prop := ∀ j : Nat, j < 32 -> w.cell? ⟨3, j, none⟩ = some (.int .i64 (sizeOf8 (8 * j) : Nat))
theorem Tab.below {w w' : World} {B : Nat} (h : Tab w) (hb : Below B w w') (hB : 3 < B) : Tab w' := fun j hj => (hb.cell hB).trans (h j hj)
theorem Tab.pos {w : World} (h : Tab w) : 3 < w.heap.size := World.block_lt_of_cell? w _ (h 0 (by decide))
theorem size_same (a : Nat) : sizeOf8 (8 * (a / 8)) = sizeOf8 a := by
 unfold sizeOf8; have h1 : 8 * (a / 8) < 128 ↔ a < 128 := by omega
 have h2 : 8 * (a / 8) < 192 ↔ a < 192 := by omega
 have h3 : 8 * (a / 8) < 224 ↔ a < 224 := by omega
 have h4 : 8 * (a / 8) < 240 ↔ a < 240 := by omega
 have h5 : 8 * (a / 8) < 248 ↔ a < 248 := by omega
 simp only [h1, h2, h3, h4, h5]
theorem i64_and_nat (a b : Nat) (ha : a < 4611686018427387904) (hb : b < 4611686018427387904) : bits .and .i64 (a : Int) (b : Int) = ((a &&& b : Nat) : Int) := by
 have hx : a &&& b < 2 ^ 62 := Nat.and_lt_two_pow _ (by omega)
 have e1 : (BitVec.ofInt 64 (a : Int)).toNat = a := by rw [BitVec.ofInt_natCast, BitVec.toNat_ofNat]; exact Nat.mod_eq_of_lt (by omega)
 have e2 : (BitVec.ofInt 64 (b : Int)).toNat = b := by rw [BitVec.ofInt_natCast, BitVec.toNat_ofNat]; exact Nat.mod_eq_of_lt (by omega)
 show IntKind.i64.wrap ((BitVec.ofInt 64 (a : Int) &&& BitVec.ofInt 64 (b : Int)).toNat : Int) = _; rw [BitVec.toNat_and, e1, e2, IntKind.wrap_i64]; omega
theorem i64_or_nat (a b : Nat) (ha : a < 4611686018427387904) (hb : b < 4611686018427387904) : bits .or .i64 (a : Int) (b : Int) = ((a ||| b : Nat) : Int) := by
 have hx : a ||| b < 2 ^ 62 := Nat.or_lt_two_pow (by omega) (by omega)
 have e1 : (BitVec.ofInt 64 (a : Int)).toNat = a := by rw [BitVec.ofInt_natCast, BitVec.toNat_ofNat]; exact Nat.mod_eq_of_lt (by omega)
 have e2 : (BitVec.ofInt 64 (b : Int)).toNat = b := by rw [BitVec.ofInt_natCast, BitVec.toNat_ofNat]; exact Nat.mod_eq_of_lt (by omega)
 show IntKind.i64.wrap ((BitVec.ofInt 64 (a : Int) ||| BitVec.ofInt 64 (b : Int)).toNat : Int) = _
 rw [BitVec.toNat_or, e1, e2, IntKind.wrap_i64]; omega
theorem and_mask (a k : Nat) : a &&& (2 ^ k - 1) = a % 2 ^ k := Nat.and_two_pow_sub_one_eq_mod a k
theorem and31 (a : Nat) (h : a < 256) : bits .and .i64 (a : Int) 31 = ((a % 32 : Nat) : Int) := by
 have := i64_and_nat a 31 (by omega) (by omega); rw [show 31 = 2 ^ 5 - 1 by rfl, and_mask] at this; simpa using this
theorem and15 (a : Nat) (h : a < 256) : bits .and .i64 (a : Int) 15 = ((a % 16 : Nat) : Int) := by
 have := i64_and_nat a 15 (by omega) (by omega); rw [show 15 = 2 ^ 4 - 1 by rfl, and_mask] at this; simpa using this
theorem and7 (a : Nat) (h : a < 256) : bits .and .i64 (a : Int) 7 = ((a % 8 : Nat) : Int) := by
 have := i64_and_nat a 7 (by omega) (by omega); rw [show 7 = 2 ^ 3 - 1 by rfl, and_mask] at this; simpa using this
theorem and63 (a : Nat) (h : a < 4611686018427387904) : bits .and .i64 (a : Int) 63 = ((a % 64 : Nat) : Int) := by
 have := i64_and_nat a 63 h (by omega); rw [show 63 = 2 ^ 6 - 1 by rfl, and_mask] at this; simpa using this
theorem and192 (a : Nat) (h : a < 256) : bits .and .i64 (a : Int) 192 = ((a / 64 * 64 : Nat) : Int) := by
 have := i64_and_nat a 192 (by omega) (by omega)
 have h2 : ∀ a : Fin 256, a.val &&& 192 = a.val / 64 * 64 := by decide +kernel
 rw [show a &&& 192 = a / 64 * 64 from h2 ⟨a, h⟩] at this
 simpa using this
theorem or64 (a b : Nat) (h : a < 16777216) (hb : b < 64) : bits .or .i64 ((a : Int) * 64) (b : Int) = ((a * 64 + b : Nat) : Int) := by
 have := i64_or_nat (a * 64) b (by omega) (by omega)
 have h7 := Nat.two_pow_add_eq_or_of_lt (i := 6) (b := b) (by omega) a
 rw [show 2 ^ 6 * a = a * 64 by omega] at h7
 rw [<- h7] at this
 simpa using this
def isScI (c : Int) : Bool := decide (0 <= c) && decide (c <= 1114111) && (decide (c < 55296) || decide (57343 < c))
theorem isScI_nat (c : Nat) : isScI (c : Int) = isSc c := by
 unfold isScI isSc; have e1 : decide (0 <= (c : Int)) = true := by simp
 have e2 : decide ((c : Int) <= 1114111) = decide (c <= 1114111) := by simp only [decide_eq_decide]; omega
 have e3 : decide ((c : Int) < 55296) = decide (c < 55296) := by simp only [decide_eq_decide]; omega
 have e4 : decide (57343 < (c : Int)) = decide (57343 < c) := by simp only [decide_eq_decide]; omega
 rw [e1, e2, e3, e4]; simp
theorem isScalar_any (c : Int) (w : World) : Calls Tryz.prog 146 #[.int .i64 c] w fun e w' => e = .returned (.bool (isScI c)) /\ w = w' := by
 unfold isScI
 by_cases h0 : 0 <= c
 ·by_cases h1 : c <= 1114111
  ·by_cases h2 : c < 55296
   ·go_enter Tryz.func146, Tryz.ntmps146
    go_wp2; go_ret; exact ⟨ret_bool (by simp [h0, h1, h2]), rfl⟩
   ·have h3 : decide (c < 55296) = false := by simp; omega
    go_enter Tryz.func146, Tryz.ntmps146; go_wp2; go_ret; exact ⟨ret_bool (by simp [h0, h1, h2]), rfl⟩
  ·have h3 : decide (c <= 1114111) = false := by simp; omega
   go_enter Tryz.func146, Tryz.ntmps146; go_wp2; go_ret; exact ⟨ret_bool (by simp [h0, h1]), rfl⟩
 ·have h3 : decide (0 <= c) = false := by simp; omega
  go_enter Tryz.func146, Tryz.ntmps146; go_wp2; go_ret; exact ⟨ret_bool (by simp [h0]), rfl⟩
theorem width_any (c : Nat) (w : World) : Calls Tryz.prog 147 #[.int .i64 c] w fun e w' => e = .returned (.int .i64 (wid c : Nat)) /\ w = w' := by
 unfold wid
 by_cases h1 : c < 128
 ·rw [if_pos h1]
  go_enter Tryz.func147, Tryz.ntmps147; go_wp2; go_ret; exact ⟨rfl, rfl⟩
 ·rw [if_neg h1]
  by_cases h2 : c < 2048
  ·rw [if_pos h2]
   have d1 : decide ((c : Int) < 128) = false := by simp; omega
   have d2 : decide ((c : Int) < 2048) = true := by simp; omega
   clear h1 h2; go_enter Tryz.func147, Tryz.ntmps147; go_wp2; go_ret; exact ⟨rfl, rfl⟩
  ·rw [if_neg h2]
   by_cases h3 : c < 65536
   ·rw [if_pos h3]
    have d1 : decide ((c : Int) < 128) = false := by simp; omega
    have d2 : decide ((c : Int) < 2048) = false := by simp; omega
    have d3 : decide ((c : Int) < 65536) = true := by simp; omega
    clear h1 h2 h3; go_enter Tryz.func147, Tryz.ntmps147; go_wp2; go_ret; exact ⟨rfl, rfl⟩
   ·rw [if_neg h3]
    have d1 : decide ((c : Int) < 128) = false := by simp; omega
    have d2 : decide ((c : Int) < 2048) = false := by simp; omega
    have d3 : decide ((c : Int) < 65536) = false := by simp; omega
    clear h1 h2 h3; go_enter Tryz.func147, Tryz.ntmps147; go_wp2; go_ret; exact ⟨rfl, rfl⟩
abbrev firstPost (l : List Nat) (w : World) : Ending -> World -> Prop := fun e w' => e = .returned (.tuple #[.int .i64 (oneN l).1, .int .i64 (oneN l).2]) /\ w = w'
theorem ret_first {a b : Int} {l : List Nat} {c n : Nat} (h : oneN l = (c, n)) (h1 : a = c) (h2 : b = n) : Ending.returned (.tuple #[.int .i64 a, .int .i64 b]) = .returned (.tuple #[.int .i64 (oneN l).1, .int .i64 (oneN l).2]) := by
 rw [h, h1, h2]
theorem first_one (s : ByteArray) (i : Nat) (a : Nat) (r : List Nat) (w : World) (hT : Tab w) (hl : (bs s).drop i = a :: r) (hs : s.size <= 1048576) (h1 : a < 128) :
  Calls Tryz.prog 123 #[.string s, .int .i64 i] w (firstPost (a :: r) w) := by
 obtain ⟨h0, e0⟩ := bs_at hl (j := 0) (by simp)
 simp only [Nat.add_zero, List.getElem_cons_zero] at h0 e0; have ho : oneN (a :: r) = (a, 1) := by simp [oneN, h1]
 have HO := Lib.hid ho; have hc := hT (a / 8) (by omega)
 rw [size_same, show sizeOf8 a = 1 by simp [sizeOf8, h1]] at hc
 clear ho hl; unfold firstPost; go_enter Tryz.func123, Tryz.ntmps123; go_wp2; go_ret2
 exact ⟨ret_first HO.out rfl rfl, rfl⟩
theorem or64' (c b : Nat) (h : c < 131072) (hb : b < 256) : bits .or .i64 ((c : Int) * 64) ((b : Int) % 64) = ((c * 64 + b % 64 : Nat) : Int) := by
 have := or64 c (b % 64) (by omega) (by omega)
 simpa using this
theorem first_many (s : ByteArray) (i : Nat) (a n : Nat) (r : List Nat) (w : World) (hT : Tab w) (hl : (bs s).drop i = a :: r) (hs : s.size <= 1048576) (hsz : sizeOf8 a = n) (hn : n = 2 \/ n = 3 \/ n = 4) :
  Calls Tryz.prog 123 #[.string s, .int .i64 i] w (firstPost (a :: r) w) := by
 have hlt : ∀ x ∈ a :: r, x < 256 := by rw [<- hl]; exact fun x hx => bs_lt x (List.mem_of_mem_drop hx)
 have ha := hlt a (by simp)
 have hi := Lib.hid (fun (j : Nat) (hj : j < (a :: r).length) => bs_at hl hj); have hlen : (a :: r).length = s.size - i := by rw [<- hl]; simp [bs_length]
 simp only [List.length_cons] at hlen; obtain ⟨h0, e0⟩ := hi.out 0 (by simp)
 simp only [Nat.add_zero, List.getElem_cons_zero] at h0 e0; have ho := oneN_many hlt hsz (by omega)
 have hc := hT (a / 8) (by omega)
 rw [size_same, hsz] at hc; clear hl; unfold firstPost
 by_cases hsh : r.length < n - 1
 ·rw [if_pos hsh] at ho
  have HO := Lib.hid ho; have hd : (s.size : Int) - i < n := by omega
  clear ho hsh hlen hsz; rcases hn with rfl | rfl | rfl
  all_goals
   go_enter Tryz.func123, Tryz.ntmps123; go_wp2; go_ret2
   exact ⟨ret_first HO.out rfl rfl, rfl⟩
 ·rw [if_neg hsh] at ho
  have HO := Lib.hid ho; have hd : (n : Int) <= (s.size : Int) - i := by omega
  have m1 := and31 a ha; have m2 := and15 a ha; have m3 := and7 a ha; have hin : initOf a n < 32 := by unfold initOf; split <;> (try split) <;> omega
  have hrl : n - 1 <= r.length := by omega
  have HLT := Lib.hid hlt; have hn1 : ((n : Int) == 1) = false := by rw [beq_eq_false_iff_ne]; omega
  have hn0 : ((n : Int) == 0) = false := by rw [beq_eq_false_iff_ne]; omega
  have hn4 : n <= 4 := by omega
  have hn2 : 2 <= n := by omega
  have hz : (n = 2 /\ ((n : Int) == 2) = true /\ initOf a n = a % 32) \/ (n = 3 /\ ((n : Int) == 2) = false /\ ((n : Int) == 3) = true /\ initOf a n = a % 16) \/ (n = 4 /\ ((n : Int) == 2) = false /\ ((n : Int) == 3) = false /\ initOf a n = a % 8) := by
   rcases hn with rfl | rfl | rfl
   ·exact .inl ⟨rfl, rfl, rfl⟩
   ·exact .inr (.inl ⟨rfl, rfl, rfl, rfl⟩)
   ·exact .inr (.inr ⟨rfl, rfl, rfl, rfl⟩)
  clear ho hsh hlen hsz hlt hn; have key : ∀ A : Nat, A = initOf a n -> A < 32 := fun A h => by omega
  rcases hz with ⟨-, f2, hz⟩ | ⟨-, f2, f3, hz⟩ | ⟨-, f2, f3, hz⟩
  all_goals
   have HZ := Lib.hid hz; clear hz; go_enter Tryz.func123, Tryz.ntmps123; go_wp2_with fail; go_loop [4, 5, 7] (fun c z k => ∃ C K : Nat, c = .int .i64 C /\ z = .int .i64 n /\ k = .int .i64 K /\ 1 <= K /\ K <= n /\ cont (initOf a n) (r.take (n - 1)) = cont C ((r.take (n - 1)).drop (K - 1)) /\ Hid ((K = 1 -> C < 32) /\ (K = 2 -> C < 2048) /\ (K = 3 -> C < 131072) /\ C < 8388608)) (fun _ _ k => n - (intOf k).toNat)
   case atStart =>
    refine ⟨initOf a n, 1, by rw [HZ.out]; simp, rfl, rfl, by omega, by omega, by simp, ?_⟩
    have := hin; exact Lib.hid (by omega)
   case round =>
    obtain ⟨C, K, rfl, rfl, rfl, hK1, hK2, hcont, hC⟩ := hrel
    by_cases hKn : K < n
    ·have hKr : K < (a :: r).length := by simp; omega
     obtain ⟨h5, e5⟩ := hi.out K hKr
     have hel : (r.take (n - 1)).drop (K - 1) = (a :: r)[K] :: (r.take (n - 1)).drop K := by
      have h6 : K - 1 < (r.take (n - 1)).length := by simp; omega
      rw [List.drop_eq_getElem_cons h6]; obtain ⟨j, rfl⟩ : ∃ j, K = j + 1 := ⟨K - 1, by omega⟩
      simp
     have hb := HLT.out _ (List.getElem_mem hKr); rw [hel] at hcont; clear hel; generalize (a :: r)[K] = b at e5 hb hcont; have h5i : 0 <= (i : Int) + (K : Int) /\ (i : Int) + (K : Int) < (s.size : Int) := by omega
     have m4 := and192 b hb; have m5 := and63 b (by omega)
     by_cases hb2 : b / 64 = 2
     ·have hCs : C < 131072 := by have := hC.out; omega
      have m6 := or64' C b hCs hb; have m7 : ((b / 64 * 64 : Nat) : Int) = 128 := by omega
      rw [m7] at m4; simp only [cont, hb2, if_true] at hcont; have HC := Lib.hid hcont; have HB : Hid ((K + 1 = 1 -> C * 64 + b % 64 < 32) /\ (K + 1 = 2 -> C * 64 + b % 64 < 2048) /\ (K + 1 = 3 -> C * 64 + b % 64 < 131072) /\ C * 64 + b % 64 < 8388608) := Lib.hid (by have := hC.out; omega)
      have hCw : C * 64 <= 8388607 := by omega
      clear hcont m7 hCs; go_wp2; go_round
      case rel => exact ⟨C * 64 + b % 64, K + 1, by go_num, rfl, by go_num, by omega, by omega, HC.out, HB⟩
      case measure => simp [intOf]; omega
     ·have m7 : (((b / 64 * 64 : Nat) : Int) != 128) = true := by rw [bne_iff_ne]; omega
      simp only [cont, hb2, if_false] at hcont; have HC := Lib.hid hcont; have H5 := HO.out; rw [HC.out] at H5; have H6 := Lib.hid H5; rw [<- m4] at m7; clear hcont H5; go_wp2; go_ret2
      exact ⟨ret_first H6.out rfl rfl, rfl⟩
    ·obtain rfl : K = n := by omega
     have hd0 : (r.take (K - 1)).drop (K - 1) = [] := List.drop_of_length_le (by simp; omega)
     rw [hd0] at hcont; simp only [cont] at hcont; have H5 := HO.out; rw [hcont] at H5; simp only at H5; clear hcont hd0
     by_cases hsc : isSc C = true
     ·by_cases hw : wid C = K
      ·rw [if_pos ⟨hsc, hw⟩] at H5
       have H6 := Lib.hid H5; have hb1 : ((wid C : Nat) : Int) = (K : Int) := by rw [hw]
       have HB1 := Lib.hid hb1; clear H5 hw hb1; go_wp2_with fail; refine (isScalar_any (C : Int) w).mono ?_; rintro e1 w1 ⟨rfl, rfl⟩; rw [isScI_nat, hsc]; go_wp2_with fail; refine (width_any C w).mono ?_; rintro e1 w1 ⟨rfl, rfl⟩; rw [HB1.out]; go_wp2; go_ret2
       exact ⟨ret_first H6.out rfl rfl, rfl⟩
      ·rw [if_neg (fun h => hw h.2)] at H5
       have H6 := Lib.hid H5; have hb1 : (((wid C : Nat) : Int) != (K : Int)) = true := by rw [bne_iff_ne]; omega
       clear H5 hw; go_wp2_with fail; refine (isScalar_any (C : Int) w).mono ?_; rintro e1 w1 ⟨rfl, rfl⟩; rw [isScI_nat, hsc]; go_wp2_with fail; refine (width_any C w).mono ?_; rintro e1 w1 ⟨rfl, rfl⟩; go_wp2; go_ret2
       exact ⟨ret_first H6.out rfl rfl, rfl⟩
     ·rw [if_neg (fun h => hsc h.1)] at H5
      have H6 := Lib.hid H5; have hsf : isSc C = false := by simpa using hsc
      clear H5 hsc; go_wp2_with fail; refine (isScalar_any (C : Int) w).mono ?_; rintro e1 w1 ⟨rfl, rfl⟩; rw [isScI_nat, hsf]; go_wp2; go_ret2
      exact ⟨ret_first H6.out rfl rfl, rfl⟩
theorem first_any (s : ByteArray) (i : Nat) (w : World) (hT : Tab w) (hs : s.size <= 1048576) :
  Calls Tryz.prog 123 #[.string s, .int .i64 i] w (firstPost ((bs s).drop i) w) := by
 obtain ⟨l, hl⟩ : ∃ l, (bs s).drop i = l := ⟨_, rfl⟩; rw [hl]
 match l with
 | [] =>
  have h1 : s.size <= i := by have := congrArg List.length hl; simp [bs_length] at this; omega
  unfold firstPost; go_enter Tryz.func123, Tryz.ntmps123; go_wp2; go_ret2
  exact ⟨rfl, rfl⟩
 | a :: r =>
  rcases sizeOf8_cases a with h | h | h
  ·obtain ⟨h0, e0⟩ := bs_at hl (j := 0) (by simp)
   simp only [Nat.add_zero, List.getElem_cons_zero] at h0 e0; have ha := bs_lt a (List.mem_of_mem_drop (i := i) (by rw [hl]; simp))
   have HO := Lib.hid (oneN_none (r := r) h); have hc := hT (a / 8) (by omega)
   rw [size_same, h] at hc; clear hl h; unfold firstPost; go_enter Tryz.func123, Tryz.ntmps123; go_wp2; go_ret2
   exact ⟨ret_first HO.out rfl rfl, rfl⟩
  ·exact first_one s i a r w hT hl hs (sizeOf8_one h)
  ·exact first_many s i a _ r w hT hl hs rfl (by omega)
def badV : Option Nat -> Int
 | none => -1
 | some a => a
theorem badV_neg (o : Option Nat) : decide (badV o < 0) = o.isNone := by
 cases o with
 | none => rfl
 | some a =>
  rw [decide_eq_false (by simp [badV])]
  rfl
def Rest (l : List Nat) (k : Nat) (pre : List (Nat × Nat)) : Prop := scan l 0 = (pre ++ (scan (l.drop k) k).1, (scan (l.drop k) k).2)
theorem Rest.zero (l : List Nat) : Rest l 0 [] := by simp [Rest]
theorem Rest.bad {l : List Nat} {k : Nat} {pre : List (Nat × Nat)} (h : Rest l k pre) (hk : k < l.length) (h1 : (oneN (l.drop k)).2 = 0) : scan l 0 = (pre, some k) := by
 have hne : l.drop k ≠ [] := by intro h; have := congrArg List.length h; simp at this; omega
 rw [h, scan_bad hne h1]; simp
theorem Rest.good {l : List Nat} {k c n : Nat} {pre : List (Nat × Nat)} (h : Rest l k pre) (hk : k < l.length) (h1 : oneN (l.drop k) = (c, n)) (hn : n ≠ 0) : Rest l (k + n) (pre ++ [(k, c)]) := by
 have hne : l.drop k ≠ [] := by intro h; have := congrArg List.length h; simp at this; omega
 unfold Rest at h ⊢; rw [h, scan_good hne h1 hn, List.drop_drop]; simp
theorem Rest.done {l : List Nat} {k : Nat} {pre : List (Nat × Nat)} (h : Rest l k pre) (hk : k = l.length) : scan l 0 = (pre, none) := by
 rw [h, hk, List.drop_length, scan_nil]; simp
theorem scan_lt : ∀ (m : Nat) (l : List Nat) (a k : Nat), l.length <= m -> (∀ x ∈ l, x < 256) -> (scan l a).2 = some k -> k < a + l.length
 | m, l, a, k, hm, hl, h => by
  by_cases h0 : l = []
  ·subst h0; simp [scan_nil] at h
  have hp := List.length_pos_iff.2 h0
  by_cases hn : (oneN l).2 = 0
  ·rw [scan_bad h0 hn] at h; simp at h; omega
  ·have hle := (oneN_le l hl).1
   cases m with
   | zero => omega
   | succ m =>
    rw [scan_step h0, if_neg hn] at h; have := scan_lt m (l.drop (oneN l).2) (a + (oneN l).2) k (by simp; omega) (fun x hx => hl x (List.mem_of_mem_drop hx)) h
    simp at this; omega
theorem Bad_any (s : ByteArray) (w : World) (hT : Tab w) (hs : s.size <= 1048576) :
  Calls Tryz.prog 99 #[.string s] w fun e w' => e = .returned (.int .i64 (badV (scan (bs s) 0).2)) /\ w = w' := by
 go_enter Tryz.func99, Tryz.ntmps99; go_wp2_with fail; go_loop [3] (fun i => ∃ (k : Nat) (pre : List (Nat × Nat)), i = .int .i64 k /\ k <= s.size /\ Rest (bs s) k pre) (fun i => s.size - (intOf i).toNat)
 case atStart => exact ⟨0, [], rfl, Nat.zero_le _, Rest.zero _⟩
 case round =>
  obtain ⟨k, pre, rfl, hk, hr⟩ := hrel; have HR := Lib.hid hr; clear hr
  by_cases h : k < s.size
  ·obtain ⟨c, n, h1⟩ : ∃ c n, oneN ((bs s).drop k) = (c, n) := ⟨_, _, rfl⟩
   have hle := (oneN_le ((bs s).drop k) (fun x hx => bs_lt x (List.mem_of_mem_drop hx))).1; have hF := first_any s k w hT hs; unfold firstPost at hF; rw [h1] at hF hle; simp only [List.length_drop, bs_length] at hle; have H1 := Lib.hid h1; clear h1
   by_cases hn : n = 0
   ·subst hn
    have h2 := Lib.hid (HR.out.bad (by rw [bs_length]; exact h) (by rw [H1.out]))
    go_wp2_with fail; refine hF.mono ?_; clear hF; rintro e w1 ⟨rfl, rfl⟩; go_wp2; go_ret; rw [h2.out]; exact ⟨rfl, rfl⟩
   ·have h2 := Lib.hid (HR.out.good (by rw [bs_length]; exact h) H1.out hn)
    have hb : ((n : Int) == 0) = false := by rw [beq_eq_false_iff_ne]; omega
    have hn1 : 1 <= n := by omega
    clear hn; go_wp2_with fail; refine hF.mono ?_; clear hF; rintro e w1 ⟨rfl, rfl⟩; go_wp2; go_round
    case rel => exact ⟨k + n, _, by go_num, by omega, h2.out⟩
    case measure => simp [intOf]; omega
  ·have h2 := Lib.hid (HR.out.done (by rw [bs_length]; omega))
   go_wp2; go_ret; rw [h2.out]; exact ⟨rfl, rfl⟩
theorem Valid_any (s : ByteArray) (w : World) (hT : Tab w) (hs : s.size <= 1048576) :
  Calls Tryz.prog 65 #[.string s] w fun e w' => e = .returned (.bool (scan (bs s) 0).2.isNone) /\ w = w' := by
 go_enter Tryz.func65, Tryz.ntmps65; go_wp2_with fail; refine (Bad_any s w hT hs).mono ?_; rintro e w1 ⟨rfl, rfl⟩; have h := badV_neg (scan (bs s) 0).2; generalize badV (scan (bs s) 0).2 = b at *; go_wp2; go_ret; exact ⟨rfl, rfl⟩
def strOf (l : List UInt8) : ByteArray := ⟨l.toArray⟩
theorem or_join (k m x : Nat) (hx : x < 2 ^ k) (hm : 2 ^ k * m < 256) (hx2 : x < 256) : bits .or .i64 ((2 ^ k * m : Nat) : Int) (x : Int) = ((2 ^ k * m + x : Nat) : Int) := by
 have := i64_or_nat (2 ^ k * m) x (by omega) (by omega)
 rw [<- Nat.two_pow_add_eq_or_of_lt hx m] at this; exact this
theorem or128 (x : Nat) (h : x < 64) : bits .or .i64 128 (x : Int) = ((128 + x : Nat) : Int) := or_join 6 2 x h (by decide) (by omega)
theorem or192 (x : Nat) (h : x < 64) : bits .or .i64 192 (x : Int) = ((192 + x : Nat) : Int) := or_join 6 3 x h (by decide) (by omega)
theorem or224 (x : Nat) (h : x < 32) : bits .or .i64 224 (x : Int) = ((224 + x : Nat) : Int) := or_join 5 7 x h (by decide) (by omega)
theorem or240 (x : Nat) (h : x < 16) : bits .or .i64 240 (x : Int) = ((240 + x : Nat) : Int) := or_join 4 15 x h (by decide) (by omega)
theorem tail_any (c : Nat) (w : World) (hc : c <= 1114111) : Calls Tryz.prog 170 #[.int .i64 c] w fun e w' => e = .returned (.int .u8 (128 + c % 64 : Nat)) /\ w = w' := by
 have m1 := and63 c (by omega)
 have m2 := or128 (c % 64) (by omega)
 push_cast at m1 m2; clear hc; go_enter Tryz.func170, Tryz.ntmps170; go_wp2; go_ret; exact ⟨ret_num (by simp), rfl⟩
theorem Tryz.underS : Tryz.prog.underlying 9 = some .string := by kernel_rfl
theorem conv_back (w : World) (l : List UInt8) (cs : Array Value) (n : Nat) (m : List UInt8) (hm : m = l) (h : cs = (l.map byteV).toArray) (hn : n = l.length) :
  (convert 56 9 (.slice (some ⟨w.heap.size, 0, none⟩) n n)).run Tryz.prog (w.alloc (.cells cs 5)) = .ok (.string (strOf m)) (w.alloc (.cells cs 5)) := by
 subst hm h hn; refine run_convert_bytes_back (P := Tryz.prog) _ _ _ 5 _ m.length m Tryz.underlying56 Tryz.underlying5 Tryz.underS fun j hj => ?_; rw [Addr.add_lit, World.cell?_alloc_new]; simp [hj]
theorem Put_any (c : Nat) (w : World) (h : isSc c = true) :
  Calls Tryz.prog 160 #[.int .i64 c] w fun e w' => e = .returned (.tuple #[.string (strOf (putU c)), .bool true]) /\ Below w.heap.size w w' := by
 have hS := isScalar_any (c : Int) w; rw [isScI_nat, h] at hS; rw [isSc_iff] at h; obtain ⟨h, -⟩ := h
 by_cases h1 : c < 128
 ·have hW := width_any c w
  rw [show wid c = 1 by simp [wid, h1]] at hW
  have hp : putU c = [UInt8.ofNat c] := by simp [putU, putN, h1]
  have hcv := conv_back w [UInt8.ofNat c] #[.int .u8 c] 1 (putU c) hp (by simp [byteV]; omega) rfl
  clear hp; go_enter Tryz.func160, Tryz.ntmps160; go_wp2_with fail; refine hS.mono ?_; rintro e w1 ⟨rfl, rfl⟩; go_wp2_with fail; refine hW.mono ?_; rintro e w1 ⟨rfl, rfl⟩; go_wp2; go_ret2
  exact ⟨rfl, (Below.refl _ _).alloc (Nat.le_refl _) _⟩
 ·by_cases h2 : c < 2048
  ·have hW := width_any c w
   rw [show wid c = 2 by simp [wid, h1, h2]] at hW
   have hp : putU c = [UInt8.ofNat (192 + c / 64), UInt8.ofNat (128 + c % 64)] := by simp [putU, putN, h1, h2]
   have m1 := or192 (c / 64) (by omega)
   push_cast at m1; have H := Lib.hid h; have hcv := conv_back w [UInt8.ofNat (192 + c / 64), UInt8.ofNat (128 + c % 64)] #[.int .u8 (192 + (c : Int) / 64), .int .u8 (128 + (c : Int) % 64)] 2 (putU c) hp (by simp [byteV]; omega) rfl
   have hb : c / 64 <= 31 := by omega
   clear hp h h1 h2; go_enter Tryz.func160, Tryz.ntmps160; go_wp2_with fail; refine hS.mono ?_; rintro e w1 ⟨rfl, rfl⟩; go_wp2_with fail; refine hW.mono ?_; rintro e w1 ⟨rfl, rfl⟩; go_wp2_with fail; refine (tail_any c w H.out).mono ?_; rintro e w1 ⟨rfl, rfl⟩; go_wp2; go_ret2
   exact ⟨rfl, (Below.refl _ _).alloc (Nat.le_refl _) _⟩
  ·by_cases h3 : c < 65536
   ·have hW := width_any c w
    rw [show wid c = 3 by simp [wid, h1, h2, h3]] at hW
    have hp : putU c = [UInt8.ofNat (224 + c / 4096), UInt8.ofNat (128 + c / 64 % 64), UInt8.ofNat (128 + c % 64)] := by simp [putU, putN, h1, h2, h3]
    have m1 := or224 (c / 4096) (by omega)
    push_cast at m1; have H := Lib.hid h; have H2 := Lib.hid (show c / 64 <= 1114111 by omega)
    have hcv := conv_back w [UInt8.ofNat (224 + c / 4096), UInt8.ofNat (128 + c / 64 % 64), UInt8.ofNat (128 + c % 64)] #[.int .u8 (224 + (c : Int) / 4096), .int .u8 (128 + (c : Int) / 64 % 64), .int .u8 (128 + (c : Int) % 64)] 3 (putU c) hp (by simp [byteV]; omega) rfl
    have hb : c / 4096 <= 15 := by omega
    clear hp h h1 h2 h3; go_enter Tryz.func160, Tryz.ntmps160; go_wp2_with fail; refine hS.mono ?_; rintro e w1 ⟨rfl, rfl⟩; go_wp2_with fail; refine hW.mono ?_; rintro e w1 ⟨rfl, rfl⟩; go_wp2_with fail; refine (tail_any (c / 64) w H2.out).mono ?_; rintro e w1 ⟨rfl, rfl⟩; go_wp2_with fail; refine (tail_any c w H.out).mono ?_; rintro e w1 ⟨rfl, rfl⟩; go_wp2; go_ret2
    exact ⟨rfl, (Below.refl _ _).alloc (Nat.le_refl _) _⟩
   ·have hW := width_any c w
    rw [show wid c = 4 by simp [wid, h1, h2, h3]] at hW
    have hp : putU c = [UInt8.ofNat (240 + c / 262144), UInt8.ofNat (128 + c / 4096 % 64), UInt8.ofNat (128 + c / 64 % 64), UInt8.ofNat (128 + c % 64)] := by simp [putU, putN, h1, h2, h3]
    have m1 : bits .or .i64 240 ((c : Int) / 262144) = 240 + (c : Int) / 262144 := by
     have := or240 (c / 262144) (by omega)
     rw [Int.natCast_add, Int.natCast_ediv] at this; exact this
    have H := Lib.hid h; have H2 := Lib.hid (show c / 64 <= 1114111 by omega)
    have H3 := Lib.hid (show c / 4096 <= 1114111 by omega)
    have hcv := conv_back w [UInt8.ofNat (240 + c / 262144), UInt8.ofNat (128 + c / 4096 % 64), UInt8.ofNat (128 + c / 64 % 64), UInt8.ofNat (128 + c % 64)] #[.int .u8 (240 + (c : Int) / 262144), .int .u8 (128 + (c : Int) / 4096 % 64), .int .u8 (128 + (c : Int) / 64 % 64), .int .u8 (128 + (c : Int) % 64)] 4 (putU c) hp (by simp [byteV]; omega) rfl
    have hb : c / 262144 <= 4 := by omega
    clear hp h h1 h2 h3; go_enter Tryz.func160, Tryz.ntmps160; go_wp2_with fail; refine hS.mono ?_; rintro e w1 ⟨rfl, rfl⟩; go_wp2_with fail; refine hW.mono ?_; rintro e w1 ⟨rfl, rfl⟩; go_wp2_with fail; refine (tail_any (c / 4096) w H3.out).mono ?_; rintro e w1 ⟨rfl, rfl⟩; go_wp2_with fail; refine (tail_any (c / 64) w H2.out).mono ?_; rintro e w1 ⟨rfl, rfl⟩; go_wp2_with fail; refine (tail_any c w H.out).mono ?_; rintro e w1 ⟨rfl, rfl⟩; go_wp2; go_ret2
    exact ⟨rfl, (Below.refl _ _).alloc (Nat.le_refl _) _⟩
theorem Put_none (c : Int) (w : World) (h : isScI c = false) :
  Calls Tryz.prog 160 #[.int .i64 c] w fun e w' => e = .returned (.tuple #[.string (strOf []), .bool false]) /\ w = w' := by
 have hS := isScalar_any c w; rw [h] at hS; go_enter Tryz.func160, Tryz.ntmps160; go_wp2_with fail; refine hS.mono ?_; rintro e w1 ⟨rfl, rfl⟩; go_wp2; go_ret2
 exact ⟨rfl, rfl⟩
abbrev failV (n : Int) : Value := .iface 125 (.agg #[.int .i64 n])
abbrev FailP (n : Int) : Ending := .panicked [{ v := failV n, recovered := false }]
theorem fail_any (n : Int) (w : World) : Calls Tryz.prog 115 #[.int .i64 n] w fun e w' => e = FailP n /\ w = w' := by
 go_enter Tryz.func115, Tryz.ntmps115; go_wp2; exact ⟨rfl, rfl, rfl⟩
def RdrAt (w : World) (g : Nat) (s : ByteArray) (k : Nat) (l : List UInt8) : Prop :=
 ∃ cs, Bld 129 g w g 2 cs l /\ cs.size = 4 /\ cs[0]? = some (.string s) /\ cs[1]? = some (.int .i64 (k : Int))
theorem in4 : BldIn 129 4 2 := ⟨by decide, by kernel_rfl, by decide⟩
theorem RdrAt.drewN {w : World} {g : Nat} {s : ByteArray} {k : Nat} {l : List UInt8} (h : RdrAt w g s k l) (n : Nat) : RdrAt (w.drewN n) g s k l := by
 obtain ⟨cs, ⟨h1, h2, v, h3, h4⟩, h5⟩ := h; exact ⟨cs, ⟨h1.drewN n, h2, v, h3, h4.drewN n⟩, h5⟩
theorem RdrAt.lt {w : World} {g : Nat} {s : ByteArray} {k : Nat} {l : List UInt8} (h : RdrAt w g s k l) : g < w.heap.size := by
 obtain ⟨cs, h1, _⟩ := h; exact h1.cells.lt
theorem RdrAt.moved {w : World} {g : Nat} {s : ByteArray} {k : Nat} {l : List UInt8} (h : RdrAt w g s k l) (k' : Nat) : RdrAt (w.setCell ⟨g, 1, none⟩ (.int .i64 (k' : Int))) g s k' l := by
 obtain ⟨cs, ⟨h1, h2, v, h3, h4⟩, h5, h6, h7⟩ := h; refine ⟨cs.set 1 (.int .i64 (k' : Int)) (by omega), ⟨h1.set 1 (by omega) _, ?_, v, ?_, h4.setOther _ _ (own_ne_box h4 h1 (by decide))⟩, by simpa using h5, ?_, by simp⟩
 ·rwa [Array.getElem?_set_ne (by omega) (by omega)]
 ·rwa [Array.getElem?_set_ne (by omega) (by omega)]
 ·rwa [Array.getElem?_set_ne (by omega) (by omega)]
theorem below_moved {w : World} (g : Nat) (v : Value) : Below g w (w.setCell ⟨g, 1, none⟩ v) := (Below.refl g w).setCell (p := ⟨g, 1, none⟩) (Nat.le_refl _) v
def OkR (g : Nat) (s : ByteArray) (w : World) (v : Value) (k' : Nat) (l' : List UInt8) (e : Ending) (w' : World) : Prop :=
 e = .returned v /\ RdrAt w' g s k' l' /\ Below g w w' /\ Beside 5 g w w'
def BadR (g : Nat) (w : World) (n : Int) (e : Ending) (w' : World) : Prop := e = FailP n /\ Below g w w'
theorem Beside.drewN {E : TypeId} {g : Nat} {w w' : World} (h : Beside E g w w') (n : Nat) : Beside E g w (w'.drewN n) := h
theorem Below.drewN' {B : Nat} {w w' : World} (h : Below B w w') (n : Nat) : Below B w (w'.drewN n) := h.trans (below_draws B w' n)
theorem rnext_end (w : World) (g : Nat) (s : ByteArray) (k : Nat) (l : List UInt8) (h : RdrAt w g s k l) (hk : k = s.size) (hs : s.size <= 1048576) :
  Calls Tryz.prog 114 #[.pointer (some ⟨g, 0, none⟩)] w (BadR g w 2) := by
 obtain ⟨cs, hb, h5, h6, h7⟩ := h; have c0 := hb.cells.cell 0 _ h6; have c1 := hb.cells.cell 1 _ h7; have hd : decide (s.size <= k) = true := by simp; omega
 clear hk hb h5 h6 h7; go_enter Tryz.func114, Tryz.ntmps114; go_wp2_with fail; go_quiet (fail)
 go_wp2_with fail; refine (fail_any 2 _).mono ?_; rintro e w1 ⟨rfl, rfl⟩; go_wp2; exact ⟨rfl, rfl, Below.drewN' (Below.refl g w) _⟩
theorem rnext_any (w : World) (g : Nat) (s : ByteArray) (k : Nat) (l : List UInt8) (h : RdrAt w g s k l) (hk : k < s.size) (hs : s.size <= 1048576) :
  Calls Tryz.prog 114 #[.pointer (some ⟨g, 0, none⟩)] w (OkR g s w (.int .u8 ((s[k]'hk).toNat : Nat)) (k + 1) l) := by
 obtain ⟨cs, hb, h5, h6, h7⟩ := id h; have c0 := hb.cells.cell 0 _ h6; have c1 := hb.cells.cell 1 _ h7; have f1 := hb.cells.frozen 1; have hd : decide (s.size <= k) = false := by simp; omega
 have hlt := hb.cells.lt; clear hb h5 h6 h7; go_enter Tryz.func114, Tryz.ntmps114; go_wp2_with fail; go_quiet (fail)
 go_wp2_with fail; go_quiet (fail)
 go_wp2; go_ret; exact ⟨rfl, ((h.drewN _).moved (k + 1)).drewN _, Below.drewN' ((Below.drewN' (Below.refl g w) _).setCell (p := ⟨g, 1, none⟩) (Nat.le_refl _) _) _, ((Beside.refl.drewN _).setCell 1 _).drewN _⟩
theorem drop_nil_iff {s : ByteArray} {k : Nat} (hk : k <= s.size) (h : (bs s).drop k = []) : k = s.size := by
 have := congrArg List.length h; simp [bs_length] at this; omega
theorem rnext_nil (w : World) (g : Nat) (s : ByteArray) (k : Nat) (l : List UInt8) (h : RdrAt w g s k l) (hk : k <= s.size) (hr : (bs s).drop k = []) (hs : s.size <= 1048576) :
  Calls Tryz.prog 114 #[.pointer (some ⟨g, 0, none⟩)] w (BadR g w 2) := rnext_end w g s k l h (drop_nil_iff hk hr) hs
theorem rnext_cons (w : World) (g : Nat) (s : ByteArray) (k : Nat) (l : List UInt8) {c : Nat} {r : List Nat} (h : RdrAt w g s k l) (hr : (bs s).drop k = c :: r) (hs : s.size <= 1048576) :
  Calls Tryz.prog 114 #[.pointer (some ⟨g, 0, none⟩)] w (OkR g s w (.int .u8 (c : Int)) (k + 1) l) := by
 obtain ⟨hk, he⟩ := bs_at hr (j := 0) (by simp)
 have hk' : k < s.size := hk; have e : (s[k]'hk').toNat = c := he; have := rnext_any w g s k l h hk' hs
 rwa [e] at this
theorem drop_cons {l r : List Nat} {k c : Nat} (h : l.drop k = c :: r) : l.drop (k + 1) = r /\ k < l.length := by
 refine ⟨?_, ?_⟩
 ·rw [<- List.drop_drop, h]; rfl
 ·have := congrArg List.length h; simp at this; omega
theorem or16 (a b : Nat) (h : a < 16777216) (hb : b < 16) : bits .or .i64 ((a : Int) * 16) (b : Int) = ((a * 16 + b : Nat) : Int) := by
 have := i64_or_nat (a * 16) b (by omega) (by omega)
 push_cast at this; rw [this, show a * 16 = 2 ^ 4 * a by omega, <- Nat.two_pow_add_eq_or_of_lt (by omega : b < 2 ^ 4)]
def FourP (g : Nat) (s : ByteArray) (w : World) (k : Nat) (l : List UInt8) (r : List Nat) (e : Ending) (w' : World) : Prop :=
 ((unitQ r).2 = 0 /\ OkR g s w (.int .i64 ((unitQ r).1 : Nat)) (k + 4) l e w') \/ ((unitQ r).2 ≠ 0 /\ BadR g w ((unitQ r).2 : Nat) e w')
theorem lim4 {j m : Nat} (hj : j < 4) (hm : m < 16 ^ j) : m < 4096 /\ ∀ d, d < 16 -> m * 16 + d < 16 ^ (j + 1) := by
 have : j = 0 \/ j = 1 \/ j = 2 \/ j = 3 := by omega
 rcases this with rfl | rfl | rfl | rfl <;> simp at hm ⊢ <;> refine ⟨by omega, fun d hd => by omega⟩
theorem four_any (w : World) (g : Nat) (s : ByteArray) (k : Nat) (l : List UInt8) (h : RdrAt w g s k l) (hk : k <= s.size) (hs : s.size <= 1048576) :
  Calls Tryz.prog 169 #[.pointer (some ⟨g, 0, none⟩)] w (FourP g s w k l ((bs s).drop k)) := by
 go_enter Tryz.func169, Tryz.ntmps169; go_wp2_with fail; go_loopw [3, 5] (fun n i wr => ∃ (j m : Nat), j <= 4 /\ n = .int .i64 m /\ i = .int .i64 j /\ m < 16 ^ j /\ RdrAt wr g s (k + j) l /\ k + j <= s.size /\ Below g w wr /\ Beside 5 g w wr /\ unitF (4 - j) m ((bs s).drop (k + j)) = unitQ ((bs s).drop k)) (fun _ i _ => 4 - (intOf i).toNat)
 case atStart => exact ⟨0, 0, by omega, rfl, rfl, by simp, h, hk, Below.refl _ _, Beside.refl, rfl⟩
 case round =>
  obtain ⟨j, m, hj, rfl, rfl, hm, hR, hkj, hb, hB, hu⟩ := hrel
  by_cases hj4 : j < 4
  ·obtain ⟨hm1, hm2⟩ := lim4 hj4 hm
   obtain ⟨i, hi⟩ : ∃ i, 4 - j = i + 1 := ⟨3 - j, by omega⟩
   rw [hi] at hu
   cases hr : (bs s).drop (k + j) with
   | nil =>
    rw [hr, unitF] at hu; have HU := Lib.hid hu; have hN := rnext_nil wr g s (k + j) l hR hkj hr hs; clear hu hr hi hm2 hm; go_wp2_with fail; refine hN.mono ?_; rintro e w1 ⟨rfl, hb1⟩; go_wp2; exact ⟨rfl, .inr ⟨by rw [<- HU.out]; simp, by rw [<- HU.out]; rfl, hb.trans hb1⟩⟩
   | cons c r =>
    obtain ⟨hd1, hd2⟩ := drop_cons hr; rw [bs_length] at hd2; have HR := Lib.hid (show (bs s).drop (k + (j + 1)) = r from hd1); have hc : c < 256 := bs_lt c (List.mem_of_mem_drop (by rw [hr]; simp))
    have hN := rnext_cons wr g s (k + j) l hR hr hs; rw [hr] at hu; simp only [unitF] at hu; clear hd1
    by_cases h1 : 48 <= c /\ c <= 57
    ·obtain ⟨x, hx⟩ : ∃ x, x = m * 16 + (c - 48) := ⟨_, rfl⟩
     have ho : bits .or .i64 ((m : Int) * 16) ((c : Int) - 48) = (x : Int) := by
      have := or16 m (c - 48) (by omega) (by omega)
      rw [show (((c - 48 : Nat)) : Int) = (c : Int) - 48 by omega] at this
      rw [this, hx]
     have hx2 : x < 16 ^ (j + 1) := by rw [hx]; exact hm2 _ (by omega)
     rw [show hexV c = some (c - 48) by unfold hexV; rw [if_pos h1]] at hu
     simp only [<- hx] at hu; have HU := Lib.hid hu; have HX2 := Lib.hid hx2; clear hu hr hm2 hm hx2 hx; have HI := Lib.hid hi; clear hi; go_wp2_with fail; refine hN.mono ?_; clear hN; rintro e w1 ⟨rfl, hR1, hb1, hB1⟩; go_wp2; go_roundw
     case rel => exact ⟨j + 1, x, by omega, rfl, by go_num, HX2.out, hR1, by omega, hb.trans hb1, hB.trans hB1, by rw [show 4 - (j + 1) = i by have := HI.out; omega, HR.out]; exact HU.out⟩
     case measure => simp [intOf]; omega
    by_cases h2 : 97 <= c /\ c <= 102
    ·obtain ⟨x, hx⟩ : ∃ x, x = m * 16 + (c - 87) := ⟨_, rfl⟩
     have ho : bits .or .i64 ((m : Int) * 16) ((c : Int) - 97 + 10) = (x : Int) := by
      have := or16 m (c - 87) (by omega) (by omega)
      rw [show (((c - 87 : Nat)) : Int) = (c : Int) - 97 + 10 by omega] at this
      rw [this, hx]
     have hx2 : x < 16 ^ (j + 1) := by rw [hx]; exact hm2 _ (by omega)
     rw [show hexV c = some (c - 87) by unfold hexV; rw [if_neg h1, if_pos h2]] at hu
     simp only [<- hx] at hu; have HU := Lib.hid hu; have HX2 := Lib.hid hx2; clear hu hr hm2 hm hx2 hx; have HI := Lib.hid hi; clear hi; go_wp2_with fail; refine hN.mono ?_; clear hN; rintro e w1 ⟨rfl, hR1, hb1, hB1⟩; go_wp2; go_roundw
     case rel => exact ⟨j + 1, x, by omega, rfl, by go_num, HX2.out, hR1, by omega, hb.trans hb1, hB.trans hB1, by rw [show 4 - (j + 1) = i by have := HI.out; omega, HR.out]; exact HU.out⟩
     case measure => simp [intOf]; omega
    by_cases h3 : 65 <= c /\ c <= 70
    ·obtain ⟨x, hx⟩ : ∃ x, x = m * 16 + (c - 55) := ⟨_, rfl⟩
     have ho : bits .or .i64 ((m : Int) * 16) ((c : Int) - 65 + 10) = (x : Int) := by
      have := or16 m (c - 55) (by omega) (by omega)
      rw [show (((c - 55 : Nat)) : Int) = (c : Int) - 65 + 10 by omega] at this
      rw [this, hx]
     have hx2 : x < 16 ^ (j + 1) := by rw [hx]; exact hm2 _ (by omega)
     rw [show hexV c = some (c - 55) by unfold hexV; rw [if_neg h1, if_neg h2, if_pos h3]] at hu
     simp only [<- hx] at hu; have HU := Lib.hid hu; have HX2 := Lib.hid hx2; clear hu hr hm2 hm hx2 hx; have HI := Lib.hid hi; clear hi; go_wp2_with fail; refine hN.mono ?_; clear hN; rintro e w1 ⟨rfl, hR1, hb1, hB1⟩; go_wp2; go_roundw
     case rel => exact ⟨j + 1, x, by omega, rfl, by go_num, HX2.out, hR1, by omega, hb.trans hb1, hB.trans hB1, by rw [show 4 - (j + 1) = i by have := HI.out; omega, HR.out]; exact HU.out⟩
     case measure => simp [intOf]; omega
    ·rw [show hexV c = none by unfold hexV; rw [if_neg h1, if_neg h2, if_neg h3]] at hu
     have HU := Lib.hid hu; clear hu hr hm2 hm hi; have h4 : c < 48 \/ (58 <= c /\ c <= 64) \/ (71 <= c /\ c <= 96) \/ 103 <= c := by omega
     clear h1 h2 h3; rcases h4 with h4 | h4 | h4 | h4
     all_goals
      go_wp2_with fail; refine hN.mono ?_; rintro e w1 ⟨rfl, hR1, hb1, hB1⟩; go_wp2_with fail; refine (fail_any 3 _).mono ?_; rintro e w2 ⟨rfl, rfl⟩; go_wp2; exact ⟨rfl, .inr ⟨by rw [<- HU.out]; simp, by rw [<- HU.out]; rfl, hb.trans hb1⟩⟩
  ·obtain rfl : j = 4 := by omega
   simp only [Nat.sub_self, unitF] at hu; have HU := Lib.hid hu; clear hu hm; go_wp2; go_ret; exact .inl ⟨by rw [<- HU.out], by rw [<- HU.out]; rfl, hR, hb, hB⟩
def un (l : List Nat) : List UInt8 := l.map UInt8.ofNat
theorem un_append (a b : List Nat) : un (a ++ b) = un a ++ un b := by simp [un]
theorem RdrAt.wrote {w : World} {g : Nat} {s : ByteArray} {k : Nat} {l' : List UInt8} {w' : World} {cs : Array Value} (h5 : cs.size = 4) (h6 : cs[0]? = some (.string s)) (h7 : cs[1]? = some (.int .i64 (k : Int)))
  (h : ∃ cs', Bld 129 g w' g 2 cs' l' /\ Used g 2 cs cs' /\ Below g w w' /\ Beside 5 g w w') : RdrAt w' g s k l' /\ Below g w w' /\ Beside 5 g w w' := by
 obtain ⟨cs', hb, ⟨h1, h2, h3⟩, h8, h9⟩ := h; exact ⟨⟨cs', hb, by rw [h1, h5], by rw [h2 0 (by omega) (by omega)]; exact h6, by rw [h2 1 (by omega) (by omega)]; exact h7⟩, h8, h9⟩
theorem rWB (w : World) (g : Nat) (s : ByteArray) (k : Nat) (l : List UInt8) (c : Nat) (n : Int) (hn : n = (c : Int)) (hc : c < 256) (h : RdrAt w g s k l) (hl : l.length <= 100000000) :
  Calls Tryz.prog 103 #[.pointer (some ⟨g, 2, none⟩), .int .u8 n] w fun e w' => e = .returned .nilIface /\ RdrAt w' g s k (l ++ un [c]) /\ Below g w w' /\ Beside 5 g w w' := by
 obtain ⟨cs, hb, h5, h6, h7⟩ := h; refine (WriteByte_any w (UInt8.ofNat c) n (by rw [hn, UInt8.toNat_ofNat']; omega) hb (by rw [h5]; exact in4) (Nat.le_refl _) (by omega)).mono ?_
 rintro e w' ⟨rfl, hh⟩; exact ⟨rfl, RdrAt.wrote h5 h6 h7 hh⟩
theorem rWS (w : World) (g : Nat) (s : ByteArray) (k : Nat) (l : List UInt8) (x : ByteArray) (h : RdrAt w g s k l) (hl : l.length + x.size <= 100000000) :
  Calls Tryz.prog 100 #[.pointer (some ⟨g, 2, none⟩), .string x] w fun e w' => e = .returned (.tuple #[.int .i64 x.size, .nilIface]) /\ RdrAt w' g s k (l ++ x.data.toList) /\ Below g w w' /\ Beside 5 g w w' := by
 obtain ⟨cs, hb, h5, h6, h7⟩ := h; refine (WriteString_any w x hb (by rw [h5]; exact in4) (Nat.le_refl _) (by omega)).mono ?_
 rintro e w' ⟨rfl, hh⟩; exact ⟨rfl, RdrAt.wrote h5 h6 h7 hh⟩
def PartP (g : Nat) (s : ByteArray) (w : World) (v : Value) (k0 : Nat) (l : List UInt8) (q : PartR) (e : Ending) (w' : World) : Prop :=
 (q.2.2 = 0 /\ OkR g s w v (k0 + q.2.1) (l ++ un q.1) e w') \/ (q.2.2 ≠ 0 /\ BadR g w (q.2.2 : Nat) e w')
theorem strOf_size (l : List UInt8) : (strOf l).size = l.length := by simp [strOf, ByteArray.size]
theorem Beside.of_below {E : TypeId} {g : Nat} {w w' : World} (h : Below w.heap.size w w') : Beside E g w w' :=
 ⟨h.size, fun k o _ ho _ => (h.block k (Array.getElem?_eq_some_iff.1 ho).1).trans ho⟩
theorem RdrAt.below {w w' : World} {g : Nat} {s : ByteArray} {k : Nat} {l : List UInt8} (h : RdrAt w g s k l) (hb : Below w.heap.size w w') : RdrAt w' g s k l := by
 obtain ⟨cs, ⟨h1, h2, v, h3, h4⟩, h5⟩ := h; exact ⟨cs, ⟨h1.below hb h1.lt, h2, v, h3, h4.below hb (Nat.le_refl _)⟩, h5⟩
theorem number_any (w : World) (g : Nat) (s : ByteArray) (k : Nat) (l : List UInt8) (h : RdrAt w g s (k + 2) l) (hk : k + 2 <= s.size) (hs : s.size <= 1048576) (hl : l.length <= 9000000) :
  Calls Tryz.prog 159 #[.pointer (some ⟨g, 0, none⟩)] w (PartP g s w (.tuple #[]) k l (codedQ ((bs s).drop (k + 2)))) := by
 have h4 := four_any w g s (k + 2) l h hk hs; have hbase : g <= w.heap.size := Nat.le_of_lt h.lt; obtain ⟨r, hr⟩ : ∃ r, r = (bs s).drop (k + 2) := ⟨_, rfl⟩; rw [<- hr] at h4 ⊢
 by_cases hu : (unitQ r).2 = 0
 ·obtain ⟨hv1, hv2⟩ := unitQ_val hu
  obtain ⟨n, hn⟩ : ∃ n, n = (unitQ r).1 := ⟨_, rfl⟩; have hlen : k + 6 <= s.size := by rw [hr] at hv1; simp [bs_length] at hv1; omega
  rw [<- hn] at hv2
  have h4' : Calls Tryz.prog 169 #[.pointer (some ⟨g, 0, none⟩)] w (OkR g s w (.int .i64 (n : Int)) (k + 2 + 4) l) := h4.mono fun e w' h => by
   rcases h with ⟨_, h⟩ | ⟨h, _⟩
   ·rwa [hn]
   ·exact absurd hu h
  by_cases h1 : 56320 <= n /\ n <= 57343
  ·have HC : Hid (codedQ r = errR 3) := Lib.hid (by unfold codedQ; rw [if_neg (by simp [hu]), if_pos (by rw [<- hn]; exact h1)])
   clear h4 hu hn hr hv1; go_enter Tryz.func159, Tryz.ntmps159; go_wp2_with fail; refine h4'.mono ?_; rintro e w1 ⟨rfl, hR1, hb1, hB1⟩; go_wp2_with fail; refine (fail_any 3 _).mono ?_; rintro e w2 ⟨rfl, rfl⟩; go_wp2; exact ⟨rfl, .inr ⟨by rw [HC.out]; simp [errR], by rw [HC.out]; rfl, hb1⟩⟩
  ·by_cases h2 : n < 55296 \/ 57343 < n
   ·have HC : Hid (codedQ r = (putN n, 6, 0)) := Lib.hid (by unfold codedQ; rw [if_neg (by simp [hu]), if_neg (by rw [<- hn]; exact h1), if_pos (by rw [<- hn]; exact h2), <- hn])
    have hP := fun W => Put_any n W (by rw [isSc_iff]; omega)
    have hsz : (strOf (putU n)).size <= 4 := by rw [strOf_size, putU_length]; exact (wid_pos n).2
    clear h4 hu hn hr hv1; rcases h2 with h2 | h2
    all_goals
     go_enter Tryz.func159, Tryz.ntmps159; go_wp2_with fail; refine h4'.mono ?_; rintro e w1 ⟨rfl, hR1, hb1, hB1⟩; go_wp2_with fail; refine (hP _).mono ?_; rintro e w2 ⟨rfl, hb2⟩; have hR2 := hR1.below hb2; have hz2 := hb2.size; have hlt2 := hR1.lt; go_wp2_with fail; refine (rWS w2 g s _ l _ hR2 (by omega)).mono ?_
     rintro e w3 ⟨rfl, hR3, hb3, hB3⟩; go_wp2; go_end0
     exact .inl ⟨by rw [HC.out], by rw [HC.out]; exact ⟨rfl, hR3, (hb1.trans (hb2.mono (by omega))).trans hb3, (hB1.trans (Beside.of_below hb2)).trans hB3⟩⟩
   ·have HC0 : Hid (codedQ r = lowQ n (r.drop 4)) := Lib.hid (by unfold codedQ; rw [if_neg (by simp [hu]), if_neg (by rw [<- hn]; exact h1), if_neg (by rw [<- hn]; exact h2), <- hn])
    have hr4 : r.drop 4 = (bs s).drop (k + 6) := by rw [hr, List.drop_drop]
    have hn3 : 55296 <= n /\ n <= 56319 := by omega
    have b1 : decide ((56320 : Int) <= (n : Int)) = false := by simp; omega
    have b2 : decide ((55296 : Int) <= (n : Int)) = true := by simp; omega
    have b3 : decide ((n : Int) <= 56319) = true := by simp; omega
    have HN3 := Lib.hid hn3; clear h4 hu hn hv1 h1 h2 hv2; have HR := Lib.hid hr; clear hr hn3
    cases hq : (bs s).drop (k + 6) with
    | nil =>
     have HC : Hid (codedQ r = errR 2) := Lib.hid (by rw [HC0.out, hr4, hq]; rfl)
     have hN := fun W h => rnext_nil W g s (k + 2 + 4) l h (by omega) hq hs
     clear hq hr4; go_enter Tryz.func159, Tryz.ntmps159; go_wp2_with fail; refine h4'.mono ?_; rintro e w1 ⟨rfl, hR1, hb1, hB1⟩; go_wp2_with fail; refine (hN _ hR1).mono ?_; rintro e w2 ⟨rfl, hb2⟩; go_wp2; exact ⟨rfl, .inr ⟨by rw [HC.out]; simp [errR], by rw [HC.out]; rfl, hb1.trans hb2⟩⟩
    | cons c t =>
     have hN := fun W h => rnext_cons W g s (k + 2 + 4) l h hq hs; have hc : c < 256 := bs_lt c (List.mem_of_mem_drop (by rw [hq]; simp))
     by_cases hc92 : c = 92
     ·subst hc92
      obtain ⟨hd, hd2⟩ := drop_cons hq; rw [bs_length] at hd2; have hrt : r.drop 4 = 92 :: t := by rw [hr4, hq]
      cases ht : t with
      | nil =>
       have HC : Hid (codedQ r = errR 2) := Lib.hid (by rw [HC0.out, hrt, ht]; rfl)
       have hN2 := fun W h => rnext_nil W g s (k + 2 + 4 + 1) l h (by omega) (by rw [<- ht]; exact hd) hs
       clear hq hr4 hrt ht hd; go_enter Tryz.func159, Tryz.ntmps159; go_wp2_with fail; refine h4'.mono ?_; rintro e w1 ⟨rfl, hR1, hb1, hB1⟩; go_wp2_with fail; refine (hN _ hR1).mono ?_; rintro e w2 ⟨rfl, hR2, hb2, hB2⟩; go_wp2_with fail; refine (hN2 _ hR2).mono ?_; rintro e w3 ⟨rfl, hb3⟩; go_wp2; exact ⟨rfl, .inr ⟨by rw [HC.out]; simp [errR], by rw [HC.out]; rfl, (hb1.trans hb2).trans hb3⟩⟩
      | cons d u =>
       subst ht; have hN2 := fun W h => rnext_cons W g s (k + 2 + 4 + 1) l h hd hs; have hdl : d < 256 := bs_lt d (List.mem_of_mem_drop (by rw [hd]; simp))
       obtain ⟨he, he2⟩ := drop_cons hd; rw [bs_length] at he2
       by_cases hd117 : d = 117
       ·subst hd117
        have hF := fun W h => four_any W g s (k + 2 + 4 + 1 + 1) l h (by omega) hs
        rw [show (bs s).drop (k + 2 + 4 + 1 + 1) = u from he] at hF; clear hq hr4 he hd
        by_cases hm : (unitQ u).2 = 0
        ·obtain ⟨hv3, hv4⟩ := unitQ_val hm
         obtain ⟨m, hmm⟩ : ∃ m, m = (unitQ u).1 := ⟨_, rfl⟩
         have hF' : ∀ W, RdrAt W g s (k + 2 + 4 + 1 + 1) l -> Calls Tryz.prog 169 #[.pointer (some ⟨g, 0, none⟩)] W (OkR g s W (.int .i64 (m : Int)) (k + 2 + 4 + 1 + 1 + 4) l) := fun W h => (hF W h).mono fun e w' h => by
          rcases h with ⟨_, h⟩ | ⟨h, _⟩
          ·rwa [hmm]
          ·exact absurd hm h
         rw [<- hmm] at hv4; clear hF
         by_cases hlow : m < 56320 \/ 57343 < m
         ·have HC : Hid (codedQ r = errR 3) := Lib.hid (by rw [HC0.out, hrt]; simp only [lowQ]; rw [if_neg (by simp), if_neg (by simp), if_neg (by simp [hm]), if_pos (by rw [<- hmm]; exact hlow)])
          clear hrt hm hmm; have HLOW := Lib.hid hlow; clear hlow hv4
          ·go_enter Tryz.func159, Tryz.ntmps159
           go_wp2_with fail; refine h4'.mono ?_; rintro e w1 ⟨rfl, hR1, hb1, hB1⟩; go_wp2_with fail; refine (hN _ hR1).mono ?_; rintro e w2 ⟨rfl, hR2, hb2, hB2⟩; go_wp2_with fail; refine (hN2 _ hR2).mono ?_; rintro e w3 ⟨rfl, hR3, hb3, hB3⟩; go_wp2_with fail; refine (hF' _ hR3).mono ?_; rintro e w4 ⟨rfl, hR4, hb4, hB4⟩
           have hlow2 : (decide ((m : Int) < 56320) = true) \/ (decide ((m : Int) < 56320) = false /\ decide ((57343 : Int) < (m : Int)) = true) := by
            rcases HLOW.out with hlow | hlow
            ·exact .inl (by simp; omega)
            ·exact .inr ⟨by simp; omega, by simp; omega⟩
           rcases hlow2 with hlow | ⟨hlow, hlow3⟩
           all_goals
            go_wp2_with fail; refine (fail_any 3 _).mono ?_; rintro e w5 ⟨rfl, rfl⟩; go_wp2; exact ⟨rfl, .inr ⟨by rw [HC.out]; simp [errR], by rw [HC.out]; rfl, ((hb1.trans hb2).trans hb3).trans hb4⟩⟩
         ·obtain ⟨x, hx⟩ : ∃ x, x = 65536 + (n - 55296) * 1024 + (m - 56320) := ⟨_, rfl⟩
          have HC : Hid (codedQ r = (putN x, 12, 0)) := Lib.hid (by rw [HC0.out, hrt]; simp only [lowQ]; rw [if_neg (by simp), if_neg (by simp), if_neg (by simp [hm]), if_neg (by rw [<- hmm]; exact hlow), hx, hmm])
          have hP := fun W => Put_any x W (by have := HN3.out; rw [isSc_iff]; omega)
          have hsz : (strOf (putU x)).size <= 4 := by rw [strOf_size, putU_length]; exact (wid_pos x).2
          have hlow' : 56320 <= m /\ m <= 57343 := by omega
          have HLOW := Lib.hid hlow'; have hn3 := HN3.out; have E1 := Lib.hid (And.intro (show (0 : Int) <= (n : Int) - 55296 /\ (n : Int) - 55296 <= 1023 by omega) (And.intro (show (0 : Int) <= (m : Int) - 56320 /\ (m : Int) - 56320 <= 1023 by omega) (show (65536 : Int) + 1024 * ((n : Int) - 55296) + ((m : Int) - 56320) = (x : Int) by omega)))
          clear hrt hm hmm hx hlow hlow' hv4 hn3; go_enter Tryz.func159, Tryz.ntmps159; go_wp2_with fail; refine h4'.mono ?_; rintro e w1 ⟨rfl, hR1, hb1, hB1⟩; go_wp2_with fail; refine (hN _ hR1).mono ?_; rintro e w20 ⟨rfl, hR20, hb20, hB20⟩; go_wp2_with fail; refine (hN2 _ hR20).mono ?_; rintro e w30 ⟨rfl, hR30, hb30, hB30⟩; go_wp2_with fail; refine (hF' _ hR30).mono ?_; rintro e w40 ⟨rfl, hR40, hb40, hB40⟩; have hd3 : decide ((m : Int) < 56320) = false := by have := HLOW.out; simp; omega
          have hd4 : decide ((57343 : Int) < (m : Int)) = false := by have := HLOW.out; simp; omega
          obtain ⟨e1, e2, hxi⟩ := E1.out; go_wp2_with fail; refine (hP _).mono ?_; rintro e w2 ⟨rfl, hb2⟩; have hR2 := hR40.below hb2; have hz2 := hb2.size; have hlt2 := hR40.lt; go_wp2_with fail; refine (rWS w2 g s _ l _ hR2 (by omega)).mono ?_
          rintro e w3 ⟨rfl, hR3, hb3, hB3⟩; go_wp2; go_end0
          exact .inl ⟨by rw [HC.out], by rw [HC.out]; exact ⟨rfl, hR3, ((((hb1.trans hb20).trans hb30).trans hb40).trans (hb2.mono (by omega))).trans hb3, ((((hB1.trans hB20).trans hB30).trans hB40).trans (Beside.of_below hb2)).trans hB3⟩⟩
        ·have HC : Hid (codedQ r = errR (unitQ u).2) := Lib.hid (by rw [HC0.out, hrt]; simp only [lowQ]; rw [if_neg (by simp), if_neg (by simp), if_pos (by simpa using hm)])
         have hF' : ∀ W, RdrAt W g s (k + 2 + 4 + 1 + 1) l -> Calls Tryz.prog 169 #[.pointer (some ⟨g, 0, none⟩)] W (BadR g W ((unitQ u).2 : Nat)) := fun W h => (hF W h).mono fun e w' h => by
          rcases h with ⟨h, _⟩ | ⟨_, h⟩
          ·exact absurd h hm
          ·exact h
         clear hF hrt; go_enter Tryz.func159, Tryz.ntmps159; go_wp2_with fail; refine h4'.mono ?_; rintro e w1 ⟨rfl, hR1, hb1, hB1⟩; go_wp2_with fail; refine (hN _ hR1).mono ?_; rintro e w2 ⟨rfl, hR2, hb2, hB2⟩; go_wp2_with fail; refine (hN2 _ hR2).mono ?_; rintro e w3 ⟨rfl, hR3, hb3, hB3⟩; go_wp2_with fail; refine (hF' _ hR3).mono ?_; rintro e w4 ⟨rfl, hb4⟩; go_wp2; exact ⟨rfl, .inr ⟨by rw [HC.out]; exact hm, by rw [HC.out]; rfl, ((hb1.trans hb2).trans hb3).trans hb4⟩⟩
       ·have HC : Hid (codedQ r = errR 3) := Lib.hid (by rw [HC0.out, hrt]; simp only [lowQ]; rw [if_neg (by simp), if_pos (by simpa using hd117)])
        have hbd : ((d : Int) != 117) = true := by rw [bne_iff_ne]; omega
        clear hq hr4 hrt hd he hd117; go_enter Tryz.func159, Tryz.ntmps159; go_wp2_with fail; refine h4'.mono ?_; rintro e w1 ⟨rfl, hR1, hb1, hB1⟩; go_wp2_with fail; refine (hN _ hR1).mono ?_; rintro e w2 ⟨rfl, hR2, hb2, hB2⟩; go_wp2_with fail; refine (hN2 _ hR2).mono ?_; rintro e w3 ⟨rfl, hR3, hb3, hB3⟩; go_wp2_with fail; refine (fail_any 3 _).mono ?_; rintro e w4 ⟨rfl, rfl⟩; go_wp2; exact ⟨rfl, .inr ⟨by rw [HC.out]; simp [errR], by rw [HC.out]; rfl, (hb1.trans hb2).trans hb3⟩⟩
     ·have HC : Hid (codedQ r = errR 3) := Lib.hid (by rw [HC0.out, hr4, hq]; simp only [lowQ]; rw [if_pos (by simpa using hc92)])
      have hbc : ((c : Int) != 92) = true := by rw [bne_iff_ne]; omega
      clear hq hr4 hc92; go_enter Tryz.func159, Tryz.ntmps159; go_wp2_with fail; refine h4'.mono ?_; rintro e w1 ⟨rfl, hR1, hb1, hB1⟩; go_wp2_with fail; refine (hN _ hR1).mono ?_; rintro e w2 ⟨rfl, hR2, hb2, hB2⟩; go_wp2_with fail; refine (fail_any 3 _).mono ?_; rintro e w3 ⟨rfl, rfl⟩; go_wp2; exact ⟨rfl, .inr ⟨by rw [HC.out]; simp [errR], by rw [HC.out]; rfl, hb1.trans hb2⟩⟩
 ·have h4' : Calls Tryz.prog 169 #[.pointer (some ⟨g, 0, none⟩)] w (BadR g w ((unitQ r).2 : Nat)) := h4.mono fun e w' h => by
   rcases h with ⟨h, _⟩ | ⟨_, h⟩
   ·exact absurd h hu
   ·exact h
  have HC : Hid (codedQ r = errR (unitQ r).2) := Lib.hid (by unfold codedQ; rw [if_pos (by simpa using hu)])
  clear h4; have HR := Lib.hid hr; clear hr; go_enter Tryz.func159, Tryz.ntmps159; go_wp2_with fail; refine h4'.mono ?_; rintro e w1 ⟨rfl, hb1⟩; go_wp2; exact ⟨rfl, .inr ⟨by rw [HC.out]; exact hu, by rw [HC.out]; rfl, hb1⟩⟩
theorem escape_any (w : World) (g : Nat) (s : ByteArray) (k : Nat) (l : List UInt8) (h : RdrAt w g s (k + 1) l) (hk : k + 1 <= s.size) (hs : s.size <= 1048576) (hl : l.length <= 9000000) :
  Calls Tryz.prog 136 #[.pointer (some ⟨g, 0, none⟩)] w (PartP g s w (.tuple #[]) k l (escQ ((bs s).drop (k + 1)))) := by
 obtain ⟨r, hr⟩ : ∃ r, r = (bs s).drop (k + 1) := ⟨_, rfl⟩; rw [<- hr]
 cases hq : r with
 | nil =>
  have hN := fun W h => rnext_nil W g s (k + 1) l h hk (by rw [<- hr]; exact hq) hs
  have HC : Hid (escQ r = errR 2) := Lib.hid (by rw [hq]; rfl)
  rw [<- hq]; have HR := Lib.hid hr; clear hq hr; go_enter Tryz.func136, Tryz.ntmps136; go_wp2_with fail; refine (hN _ h).mono ?_; rintro e w1 ⟨rfl, hb1⟩; go_wp2; exact ⟨rfl, .inr ⟨by rw [HC.out]; simp [errR], by rw [HC.out]; rfl, hb1⟩⟩
 | cons c t =>
  rw [<- hq]; have hN0 : (bs s).drop (k + 1) = c :: t := by rw [<- hr]; exact hq
  have hN := fun W h => rnext_cons W g s (k + 1) l h hN0 hs; have hc : c < 256 := bs_lt c (List.mem_of_mem_drop (by rw [hN0]; simp))
  have HR := Lib.hid hr; clear hr
  by_cases hc34 : c = 34
  ·subst hc34
   have HC : Hid (escQ r = ([34], 2, 0)) := Lib.hid (by rw [hq]; rfl)
   clear hq hN0; go_enter Tryz.func136, Tryz.ntmps136; go_wp2_with fail; refine (hN _ h).mono ?_; rintro e w1 ⟨rfl, hR1, hb1, hB1⟩; go_wp2_with fail; refine (rWB w1 g s _ l 34 _ (by first | rfl | decide) (by omega) hR1 (by omega)).mono ?_
   rintro e w2 ⟨rfl, hR2, hb2, hB2⟩; go_wp2; go_end0
   exact .inl ⟨by rw [HC.out], by rw [HC.out]; exact ⟨rfl, hR2, hb1.trans hb2, hB1.trans hB2⟩⟩
  by_cases hc92 : c = 92
  ·subst hc92
   have HC : Hid (escQ r = ([92], 2, 0)) := Lib.hid (by rw [hq]; rfl)
   clear hq hN0; go_enter Tryz.func136, Tryz.ntmps136; go_wp2_with fail; refine (hN _ h).mono ?_; rintro e w1 ⟨rfl, hR1, hb1, hB1⟩; go_wp2_with fail; refine (rWB w1 g s _ l 92 _ (by first | rfl | decide) (by omega) hR1 (by omega)).mono ?_
   rintro e w2 ⟨rfl, hR2, hb2, hB2⟩; go_wp2; go_end0
   exact .inl ⟨by rw [HC.out], by rw [HC.out]; exact ⟨rfl, hR2, hb1.trans hb2, hB1.trans hB2⟩⟩
  by_cases hc47 : c = 47
  ·subst hc47
   have HC : Hid (escQ r = ([47], 2, 0)) := Lib.hid (by rw [hq]; rfl)
   clear hq hN0; go_enter Tryz.func136, Tryz.ntmps136; go_wp2_with fail; refine (hN _ h).mono ?_; rintro e w1 ⟨rfl, hR1, hb1, hB1⟩; go_wp2_with fail; refine (rWB w1 g s _ l 47 _ (by first | rfl | decide) (by omega) hR1 (by omega)).mono ?_
   rintro e w2 ⟨rfl, hR2, hb2, hB2⟩; go_wp2; go_end0
   exact .inl ⟨by rw [HC.out], by rw [HC.out]; exact ⟨rfl, hR2, hb1.trans hb2, hB1.trans hB2⟩⟩
  by_cases hc98 : c = 98
  ·subst hc98
   have HC : Hid (escQ r = ([8], 2, 0)) := Lib.hid (by rw [hq]; rfl)
   clear hq hN0; go_enter Tryz.func136, Tryz.ntmps136; go_wp2_with fail; refine (hN _ h).mono ?_; rintro e w1 ⟨rfl, hR1, hb1, hB1⟩; go_wp2_with fail; refine (rWB w1 g s _ l 8 _ (by first | rfl | decide) (by omega) hR1 (by omega)).mono ?_
   rintro e w2 ⟨rfl, hR2, hb2, hB2⟩; go_wp2; go_end0
   exact .inl ⟨by rw [HC.out], by rw [HC.out]; exact ⟨rfl, hR2, hb1.trans hb2, hB1.trans hB2⟩⟩
  by_cases hc102 : c = 102
  ·subst hc102
   have HC : Hid (escQ r = ([12], 2, 0)) := Lib.hid (by rw [hq]; rfl)
   clear hq hN0; go_enter Tryz.func136, Tryz.ntmps136; go_wp2_with fail; refine (hN _ h).mono ?_; rintro e w1 ⟨rfl, hR1, hb1, hB1⟩; go_wp2_with fail; refine (rWB w1 g s _ l 12 _ (by first | rfl | decide) (by omega) hR1 (by omega)).mono ?_
   rintro e w2 ⟨rfl, hR2, hb2, hB2⟩; go_wp2; go_end0
   exact .inl ⟨by rw [HC.out], by rw [HC.out]; exact ⟨rfl, hR2, hb1.trans hb2, hB1.trans hB2⟩⟩
  by_cases hc110 : c = 110
  ·subst hc110
   have HC : Hid (escQ r = ([10], 2, 0)) := Lib.hid (by rw [hq]; rfl)
   clear hq hN0; go_enter Tryz.func136, Tryz.ntmps136; go_wp2_with fail; refine (hN _ h).mono ?_; rintro e w1 ⟨rfl, hR1, hb1, hB1⟩; go_wp2_with fail; refine (rWB w1 g s _ l 10 _ (by first | rfl | decide) (by omega) hR1 (by omega)).mono ?_
   rintro e w2 ⟨rfl, hR2, hb2, hB2⟩; go_wp2; go_end0
   exact .inl ⟨by rw [HC.out], by rw [HC.out]; exact ⟨rfl, hR2, hb1.trans hb2, hB1.trans hB2⟩⟩
  by_cases hc114 : c = 114
  ·subst hc114
   have HC : Hid (escQ r = ([13], 2, 0)) := Lib.hid (by rw [hq]; rfl)
   clear hq hN0; go_enter Tryz.func136, Tryz.ntmps136; go_wp2_with fail; refine (hN _ h).mono ?_; rintro e w1 ⟨rfl, hR1, hb1, hB1⟩; go_wp2_with fail; refine (rWB w1 g s _ l 13 _ (by first | rfl | decide) (by omega) hR1 (by omega)).mono ?_
   rintro e w2 ⟨rfl, hR2, hb2, hB2⟩; go_wp2; go_end0
   exact .inl ⟨by rw [HC.out], by rw [HC.out]; exact ⟨rfl, hR2, hb1.trans hb2, hB1.trans hB2⟩⟩
  by_cases hc116 : c = 116
  ·subst hc116
   have HC : Hid (escQ r = ([9], 2, 0)) := Lib.hid (by rw [hq]; rfl)
   clear hq hN0; go_enter Tryz.func136, Tryz.ntmps136; go_wp2_with fail; refine (hN _ h).mono ?_; rintro e w1 ⟨rfl, hR1, hb1, hB1⟩; go_wp2_with fail; refine (rWB w1 g s _ l 9 _ (by first | rfl | decide) (by omega) hR1 (by omega)).mono ?_
   rintro e w2 ⟨rfl, hR2, hb2, hB2⟩; go_wp2; go_end0
   exact .inl ⟨by rw [HC.out], by rw [HC.out]; exact ⟨rfl, hR2, hb1.trans hb2, hB1.trans hB2⟩⟩
  have hno : escB c = none := by
   unfold escB; rw [if_neg (by omega), if_neg hc98, if_neg hc102, if_neg hc110, if_neg hc114, if_neg hc116]
  by_cases hc117 : c = 117
  ·subst hc117
   obtain ⟨hd1, hd2⟩ := drop_cons hN0; rw [bs_length] at hd2; have hnum := fun W h => number_any W g s k l h (by omega) hs hl
   rw [show (bs s).drop (k + 2) = t from hd1] at hnum; have HC : Hid (escQ r = codedQ t) := Lib.hid (by rw [hq]; rfl)
   clear hq hN0 hno hd1 hc34 hc92 hc47 hc98 hc102 hc110 hc114 hc116; go_enter Tryz.func136, Tryz.ntmps136; go_wp2_with fail; refine (hN _ h).mono ?_; rintro e w1 ⟨rfl, hR1, hb1, hB1⟩; go_wp2_with fail; refine (hnum _ hR1).mono ?_; rintro e w2 (⟨h0, rfl, hR2, hb2, hB2⟩ | ⟨h0, rfl, hb2⟩)
   ·have H0 := Lib.hid h0
    clear h0; go_wp2; go_end0
    exact .inl ⟨by rw [HC.out]; exact H0.out, by rw [HC.out]; exact ⟨rfl, hR2, hb1.trans hb2, hB1.trans hB2⟩⟩
   ·have H0 := Lib.hid h0
    clear h0; go_wp2; exact ⟨rfl, .inr ⟨by rw [HC.out]; exact H0.out, by rw [HC.out]; exact ⟨rfl, hb1.trans hb2⟩⟩⟩
  ·have HC : Hid (escQ r = errR 3) := Lib.hid (by rw [hq]; simp only [escQ, hno, if_neg hc117])
   have b1 : ((c : Int) == 34) = false := by rw [beq_eq_false_iff_ne]; omega
   have b2 : ((c : Int) == 92) = false := by rw [beq_eq_false_iff_ne]; omega
   have b3 : ((c : Int) == 47) = false := by rw [beq_eq_false_iff_ne]; omega
   have b4 : ((c : Int) == 98) = false := by rw [beq_eq_false_iff_ne]; omega
   have b5 : ((c : Int) == 102) = false := by rw [beq_eq_false_iff_ne]; omega
   have b6 : ((c : Int) == 110) = false := by rw [beq_eq_false_iff_ne]; omega
   have b7 : ((c : Int) == 114) = false := by rw [beq_eq_false_iff_ne]; omega
   have b8 : ((c : Int) == 116) = false := by rw [beq_eq_false_iff_ne]; omega
   have b9 : ((c : Int) == 117) = false := by rw [beq_eq_false_iff_ne]; omega
   clear hq hN0 hno hc34 hc92 hc47 hc98 hc102 hc110 hc114 hc116 hc117; go_enter Tryz.func136, Tryz.ntmps136; go_wp2_with fail; refine (hN _ h).mono ?_; rintro e w1 ⟨rfl, hR1, hb1, hB1⟩; go_wp2_with fail; refine (fail_any 3 _).mono ?_; rintro e w2 ⟨rfl, rfl⟩; go_wp2; exact ⟨rfl, .inr ⟨by rw [HC.out]; simp [errR], by rw [HC.out]; rfl, hb1⟩⟩
def leadOf (n : Nat) : Int := if n = 0 then 0 else if n = 1 then 192 else if n = 2 then 224 else 240
def guessG : List Nat -> Int -> Int
 | [], c => c
 | b :: r, c => guessG r (c * 64 + b - 128)
def guessN : List Nat -> Int
 | [] => 0
 | a :: r => guessG r (a - leadOf r.length)
theorem guess_put {c : Nat} (h : isSc c = true) : guessN (putN c) = c := by
 rw [isSc_iff] at h; unfold putN
 by_cases h1 : c < 128
 ·simp [h1, guessN, guessG, leadOf]
 by_cases h2 : c < 2048
 ·rw [if_neg h1, if_pos h2]
  show (((192 + c / 64 : Nat) : Int) - 192) * 64 + ((128 + c % 64 : Nat) : Int) - 128 = c; omega
 by_cases h3 : c < 65536
 ·rw [if_neg h1, if_neg h2, if_pos h3]
  show ((((224 + c / 4096 : Nat) : Int) - 224) * 64 + ((128 + c / 64 % 64 : Nat) : Int) - 128) * 64 + ((128 + c % 64 : Nat) : Int) - 128 = c; omega
 ·rw [if_neg h1, if_neg h2, if_neg h3]
  show (((((240 + c / 262144 : Nat) : Int) - 240) * 64 + ((128 + c / 4096 % 64 : Nat) : Int) - 128) * 64 + ((128 + c / 64 % 64 : Nat) : Int) - 128) * 64 + ((128 + c % 64 : Nat) : Int) - 128 = c; omega
theorem guess_yes {l : List Nat} (hl : ∀ x ∈ l, x < 256) {n : Nat} (h1 : 1 <= n) (h2 : n <= l.length) : ((oneN l).2 = n) ↔ (isScI (guessN (l.take n)) = true /\ putN (guessN (l.take n)).toNat = l.take n) := by
 constructor
 ·intro h
  obtain ⟨c, m, h3⟩ : ∃ c m, oneN l = (c, m) := ⟨_, _, rfl⟩; rw [h3] at h; simp only at h; subst h; obtain ⟨g1, g2, g3, g4⟩ := put_oneN hl h3 (by omega)
  have hg : guessN (l.take m) = c := by rw [<- g3]; exact guess_put g1
  rw [hg, isScI_nat]; exact ⟨g1, by simpa using g3⟩
 ·rintro ⟨g1, g2⟩
  obtain ⟨c, hc⟩ : ∃ c : Nat, guessN (l.take n) = c := by
   refine ⟨(guessN (l.take n)).toNat, ?_⟩; unfold isScI at g1; simp at g1
   omega
  rw [hc] at g1 g2; rw [isScI_nat] at g1; simp only [Int.toNat_natCast] at g2; have hw : wid c = n := by rw [<- putN_len, g2]; simp; omega
  have := oneN_put g1 (l.drop n); rw [g2, List.take_append_drop] at this; rw [this, hw]
theorem guess_is {l : List Nat} (hl : ∀ x ∈ l, x < 256) {n : Nat} (h1 : 1 <= n) (h : (oneN l).2 = n) : guessN (l.take n) = (oneN l).1 := by
 obtain ⟨c, m, h3⟩ : ∃ c m, oneN l = (c, m) := ⟨_, _, rfl⟩; rw [h3] at h ⊢; simp only at h ⊢; subst h; obtain ⟨g1, g2, g3, g4⟩ := put_oneN hl h3 (by omega)
 rw [<- g3]; exact guess_put g1
def rputL (c : Int) : List UInt8 := if isScI c then putU c.toNat else []
theorem rPut_none (c : Int) (w : World) (h : isScI c = false) :
  Calls Tryz.prog 108 #[.int .i64 c] w fun e w' => e = .returned (.string (strOf [])) /\ w = w' := by
 unfold isScI at h
 by_cases h0 : c < 0
 ·clear h
  go_enter Tryz.func108, Tryz.ntmps108; go_wp2; go_ret; exact ⟨rfl, rfl⟩
 ·by_cases h1 : 1114111 < c
  ·have d0 : decide (c < 0) = false := by simp; omega
   have d1 : decide (1114111 < c) = true := by simp; omega
   clear h h0 h1; go_enter Tryz.func108, Tryz.ntmps108; go_wp2; go_ret; exact ⟨rfl, rfl⟩
  ·have d0 : decide (c < 0) = false := by simp; omega
   have d1 : decide (1114111 < c) = false := by simp; omega
   have d2 : decide (55296 <= c) = true := by simp at h; simp; omega
   have d3 : decide (c <= 57343) = true := by simp at h; simp; omega
   clear h h0 h1; go_enter Tryz.func108, Tryz.ntmps108; go_wp2; go_ret; exact ⟨rfl, rfl⟩
theorem rPut_put (c : Nat) (w : World) (h : isSc c = true) :
  Calls Tryz.prog 108 #[.int .i64 c] w fun e w' => e = .returned (.string (strOf (putU c))) /\ Below w.heap.size w w' := by
 rw [isSc_iff] at h; have d0 : decide ((c : Int) < 0) = false := by rw [decide_eq_false_iff_not]; omega
 have d1 : decide (1114111 < (c : Int)) = false := by simp; omega
 have hg : decide (55296 <= (c : Int)) = false \/ decide (55296 <= (c : Int)) = true /\ decide ((c : Int) <= 57343) = false := by
  rcases h.2 with h | h
  ·exact .inl (by simp; omega)
  ·exact .inr ⟨by simp; omega, by simp; omega⟩
 by_cases h1 : c < 128
 ·have hp : putU c = [UInt8.ofNat c] := by simp [putU, putN, h1]
  have hcv := conv_back w [UInt8.ofNat c] #[.int .u8 c] 1 (putU c) hp (by simp [byteV]; omega) rfl
  have e1 : decide ((c : Int) < 128) = true := by simp; omega
  have hb : c <= 127 := by omega
  clear hp h h1; rcases hg with d2 | ⟨d2, d3⟩
  all_goals
   go_enter Tryz.func108, Tryz.ntmps108; go_wp2; go_ret; exact ⟨rfl, (Below.refl _ _).alloc (Nat.le_refl _) _⟩
 have e1 : decide ((c : Int) < 128) = false := by simp; omega
 by_cases h2 : c < 2048
 ·have hp : putU c = [UInt8.ofNat (192 + c / 64), UInt8.ofNat (128 + c % 64)] := by simp [putU, putN, h1, h2]
  have hcv := conv_back w [UInt8.ofNat (192 + c / 64), UInt8.ofNat (128 + c % 64)] #[.int .u8 (192 + (c : Int) / 64), .int .u8 (128 + (c : Int) % 64)] 2 (putU c) hp (by simp [byteV]; omega) rfl
  have e2 : decide ((c : Int) < 2048) = true := by simp; omega
  have hb : c / 64 <= 31 := by omega
  clear hp h h1 h2; rcases hg with d2 | ⟨d2, d3⟩
  all_goals
   go_enter Tryz.func108, Tryz.ntmps108; go_wp2; go_ret; exact ⟨rfl, (Below.refl _ _).alloc (Nat.le_refl _) _⟩
 have e2 : decide ((c : Int) < 2048) = false := by simp; omega
 by_cases h3 : c < 65536
 ·have hp : putU c = [UInt8.ofNat (224 + c / 4096), UInt8.ofNat (128 + c / 64 % 64), UInt8.ofNat (128 + c % 64)] := by simp [putU, putN, h1, h2, h3]
  have hcv := conv_back w [UInt8.ofNat (224 + c / 4096), UInt8.ofNat (128 + c / 64 % 64), UInt8.ofNat (128 + c % 64)] #[.int .u8 (224 + (c : Int) / 4096), .int .u8 (128 + (c : Int) / 64 % 64), .int .u8 (128 + (c : Int) % 64)] 3 (putU c) hp (by simp [byteV]; omega) rfl
  have e3 : decide ((c : Int) < 65536) = true := by simp; omega
  have hb : c / 4096 <= 15 := by omega
  clear hp h h1 h2 h3; rcases hg with d2 | ⟨d2, d3⟩
  all_goals
   go_enter Tryz.func108, Tryz.ntmps108; go_wp2; go_ret; exact ⟨rfl, (Below.refl _ _).alloc (Nat.le_refl _) _⟩
 ·have e3 : decide ((c : Int) < 65536) = false := by simp; omega
  have hp : putU c = [UInt8.ofNat (240 + c / 262144), UInt8.ofNat (128 + c / 4096 % 64), UInt8.ofNat (128 + c / 64 % 64), UInt8.ofNat (128 + c % 64)] := by simp [putU, putN, h1, h2, h3]
  have hcv := conv_back w [UInt8.ofNat (240 + c / 262144), UInt8.ofNat (128 + c / 4096 % 64), UInt8.ofNat (128 + c / 64 % 64), UInt8.ofNat (128 + c % 64)] #[.int .u8 (240 + (c : Int) / 262144), .int .u8 (128 + (c : Int) / 4096 % 64), .int .u8 (128 + (c : Int) / 64 % 64), .int .u8 (128 + (c : Int) % 64)] 4 (putU c) hp (by simp [byteV]; omega) rfl
  have hb : c / 262144 <= 4 := by omega
  clear hp h h1 h2 h3; rcases hg with d2 | ⟨d2, d3⟩
  all_goals
   go_enter Tryz.func108, Tryz.ntmps108; go_wp2; go_ret; exact ⟨rfl, (Below.refl _ _).alloc (Nat.le_refl _) _⟩
theorem rPut_any (c : Int) (w : World) :
  Calls Tryz.prog 108 #[.int .i64 c] w fun e w' => e = .returned (.string (strOf (rputL c))) /\ Below w.heap.size w w' := by
 unfold rputL
 cases h : isScI c with
 | false => exact (rPut_none c w h).mono fun e w' ⟨h1, h2⟩ => ⟨by rw [h1]; rfl, by rw [<- h2]; exact Below.refl _ _⟩
 | true =>
  obtain ⟨n, rfl⟩ : ∃ n : Nat, c = n := ⟨c.toNat, by unfold isScI at h; simp at h; omega⟩
  rw [isScI_nat] at h
  simpa using rPut_put n w h
theorem guess_any (s : ByteArray) (l : List Nat) (w : World) (hl : bs s = l) (h1 : 1 <= l.length) (h4 : l.length <= 4) :
  Calls Tryz.prog 107 #[.string s] w fun e w' => e = .returned (.int .i64 (guessN l)) /\ Below w.heap.size w w' := by
 have hsz : s.size = l.length := by rw [<- bs_length, hl]
 have hat : ∀ j (hj : j < l.length), ∃ h' : j < s.size, (s[j]'h').toNat = l[j] := fun j hj => by
  have := bs_at (s := s) (i := 0) (l := l) (by simpa using hl) hj
  simpa using this
 have hlt : ∀ x ∈ l, x < 256 := by rw [<- hl]; exact bs_lt
 clear hl; rcases l with _ | ⟨a, _ | ⟨b, _ | ⟨c, _ | ⟨d, _ | ⟨f, r⟩⟩⟩⟩⟩
 ·simp at h1
 ·obtain ⟨i0, e0⟩ := hat 0 (by simp)
  simp only [List.getElem_cons_zero] at e0; have b0 := hlt a (by simp)
  simp only [List.length_cons, List.length_nil] at hsz; clear hat hlt h1 h4; go_enter Tryz.func107, Tryz.ntmps107; go_wp2_with fail; go_quiet (fail)
  go_wp2_with fail; refine wp_loop_rounds 1 ?_; rw [rounds_succ]; go_wp2; go_ret; refine ⟨ret_num (by simp [guessN, guessG, leadOf]), ?_⟩
  exact ((Below.refl _ _).alloc (Nat.le_refl _) _).trans (below_draws _ _ _)
 ·obtain ⟨i0, e0⟩ := hat 0 (by simp)
  obtain ⟨i1, e1⟩ := hat 1 (by simp)
  simp only [List.getElem_cons_zero, List.getElem_cons_succ] at e0 e1; have b0 := hlt a (by simp)
  have b1 := hlt b (by simp)
  simp only [List.length_cons, List.length_nil] at hsz; clear hat hlt h1 h4; go_enter Tryz.func107, Tryz.ntmps107; go_wp2_with fail; go_quiet (fail)
  go_wp2_with fail; refine wp_loop_rounds 2 ?_; rw [rounds_succ]; go_wp2_with fail; rw [rounds_succ]; go_wp2; go_ret; refine ⟨ret_num (by simp [guessN, guessG, leadOf]), ?_⟩
  exact ((Below.refl _ _).alloc (Nat.le_refl _) _).trans (below_draws _ _ _)
 ·obtain ⟨i0, e0⟩ := hat 0 (by simp)
  obtain ⟨i1, e1⟩ := hat 1 (by simp)
  obtain ⟨i2, e2⟩ := hat 2 (by simp)
  simp only [List.getElem_cons_zero, List.getElem_cons_succ] at e0 e1 e2; have b0 := hlt a (by simp)
  have b1 := hlt b (by simp)
  have b2 := hlt c (by simp)
  simp only [List.length_cons, List.length_nil] at hsz; clear hat hlt h1 h4; go_enter Tryz.func107, Tryz.ntmps107; go_wp2_with fail; go_quiet (fail)
  go_wp2_with fail; refine wp_loop_rounds 3 ?_; rw [rounds_succ]; go_wp2_with fail; rw [rounds_succ]; go_wp2_with fail; rw [rounds_succ]; go_wp2; go_ret; refine ⟨ret_num (by simp [guessN, guessG, leadOf]), ?_⟩
  exact ((Below.refl _ _).alloc (Nat.le_refl _) _).trans (below_draws _ _ _)
 ·obtain ⟨i0, e0⟩ := hat 0 (by simp)
  obtain ⟨i1, e1⟩ := hat 1 (by simp)
  obtain ⟨i2, e2⟩ := hat 2 (by simp)
  obtain ⟨i3, e3⟩ := hat 3 (by simp)
  simp only [List.getElem_cons_zero, List.getElem_cons_succ] at e0 e1 e2 e3; have b0 := hlt a (by simp)
  have b1 := hlt b (by simp)
  have b2 := hlt c (by simp)
  have b3 := hlt d (by simp)
  simp only [List.length_cons, List.length_nil] at hsz; clear hat hlt h1 h4; go_enter Tryz.func107, Tryz.ntmps107; go_wp2_with fail; go_quiet (fail)
  go_wp2_with fail; refine wp_loop_rounds 4 ?_; rw [rounds_succ]; go_wp2_with fail; rw [rounds_succ]; go_wp2_with fail; rw [rounds_succ]; go_wp2_with fail; rw [rounds_succ]; go_wp2; go_ret; refine ⟨ret_num (by simp [guessN, guessG, leadOf]), ?_⟩
  exact ((Below.refl _ _).alloc (Nat.le_refl _) _).trans (below_draws _ _ _)
 ·simp at h4
theorem bs_inj {a b : ByteArray} (h : bs a = bs b) : a = b := by
 have h1 : a.data.toList = b.data.toList := by
  unfold bs at h; exact (List.map_inj_right (fun _ _ => UInt8.toNat_inj.1)).1 h
 exact ByteArray.ext (Array.toList_inj.1 h1)
theorem toList_iff {a b : ByteArray} : (a.toList == b.toList) = true ↔ a = b := by
 constructor
 ·intro h
  have h1 := beq_iff_eq.1 h; rw [ByteArray.toList_eq, ByteArray.toList_eq] at h1; exact ByteArray.ext (Array.toList_inj.1 h1)
 ·rintro rfl; simp
theorem bs_extract (s : ByteArray) (i j : Nat) : bs (s.extract i j) = ((bs s).take j).drop i := by
 unfold bs; rw [ByteArray.data_extract, Array.toList_extract, List.extract_eq_drop_take', <- List.map_take, <- List.map_drop]
theorem bs_strOf (l : List UInt8) : bs (strOf l) = l.map UInt8.toNat := by simp [bs, strOf]
theorem putN_lt {c : Nat} (h : c <= 1114111) : ∀ x ∈ putN c, x < 256 := by
 intro x hx; unfold putN at hx; split at hx
 ·simp at hx; omega
 split at hx
 ·simp at hx; omega
 split at hx
 ·simp at hx; omega
 ·simp at hx; omega
theorem bs_putU {c : Nat} (h : isSc c = true) : bs (strOf (putU c)) = putN c := by
 rw [isSc_iff] at h; have hp := putN_lt h.1; rw [bs_strOf]; unfold putU; rw [List.map_map]
 conv => rhs; rw [<- List.map_id (putN c)]
 apply List.map_congr_left
 intro x hx; have := hp x hx; simp [UInt8.toNat_ofNat']
 omega
theorem guess_text {s : ByteArray} {i k : Nat} (h1 : 1 <= k) (h2 : i + k <= s.size) :
  (strOf (rputL (guessN (((bs s).drop i).take k))) = s.extract i (i + k)) ↔ (oneN ((bs s).drop i)).2 = k := by
 have hl : ∀ x ∈ (bs s).drop i, x < 256 := fun x hx => bs_lt x (List.mem_of_mem_drop hx); have hlen : k <= ((bs s).drop i).length := by simp [bs_length]; omega
 have hex : bs (s.extract i (i + k)) = ((bs s).drop i).take k := by
  rw [bs_extract, List.drop_take]; congr 1; omega
 rw [guess_yes hl h1 hlen]; generalize guessN (((bs s).drop i).take k) = g; constructor
 ·intro h
  have h3 := congrArg bs h; rw [hex] at h3; unfold rputL at h3
  cases hg : isScI g with
  | false =>
   rw [hg] at h3; have := congrArg List.length h3; simp [bs_strOf, bs_length] at this
   omega
  | true =>
   obtain ⟨n, rfl⟩ : ∃ n : Nat, g = n := ⟨g.toNat, by unfold isScI at hg; simp at hg; omega⟩
   rw [hg] at h3; rw [isScI_nat] at hg; simp only [if_true, Int.toNat_natCast] at h3 ⊢; rw [bs_putU hg] at h3; exact ⟨trivial, h3⟩
 ·rintro ⟨hg, h3⟩
  apply bs_inj
  rw [hex, <- h3]; unfold rputL; rw [hg]; obtain ⟨n, rfl⟩ : ∃ n : Nat, g = n := ⟨g.toNat, by unfold isScI at hg; simp at hg; omega⟩
  rw [isScI_nat] at hg; simp only [if_true, Int.toNat_natCast]; exact bs_putU hg
theorem One_any (s : ByteArray) (i : Nat) (w : World) (hs : s.size <= 1048576) (hi : i <= s.size) :
  Calls Tryz.prog 82 #[.string s, .int .i64 i] w fun e w' => e = .returned (.tuple #[.int .i64 (oneN ((bs s).drop i)).1, .int .i64 (oneN ((bs s).drop i)).2]) /\ Below w.heap.size w w' := by
 have hlt : ∀ x ∈ (bs s).drop i, x < 256 := fun x hx => bs_lt x (List.mem_of_mem_drop hx); have hle := oneN_le _ hlt; simp only [List.length_drop, bs_length] at hle; have HLE := Lib.hid hle; have HLT := Lib.hid hlt; clear hle hlt; go_enter Tryz.func82, Tryz.ntmps82; go_wp2_with fail; go_loopw [6] (fun n wr => ∃ k : Nat, n = .int .i64 k /\ 1 <= k /\ k <= 5 /\ (∀ m, 1 <= m -> m < k -> (oneN ((bs s).drop i)).2 ≠ m) /\ Below w.heap.size w wr) (fun n _ => 6 - (intOf n).toNat)
 case atStart => exact ⟨1, rfl, by omega, by omega, fun m h1 h2 => by omega, Below.refl _ _⟩
 case round =>
  obtain ⟨k, rfl, h1, h5, hno, hb⟩ := hrel; have HN := Lib.hid hno; clear hno
  by_cases hk : k = 5
  ·subst hk
   have h0 : (oneN ((bs s).drop i)).2 = 0 := by
    have h2 := HLE.out.2; have h3 := HN.out; rcases Nat.lt_or_ge (oneN ((bs s).drop i)).2 1 with h | h
    ·omega
    ·exact absurd rfl (h3 _ h (by omega))
   have hc := oneN_zero (l := (bs s).drop i) (c := (oneN ((bs s).drop i)).1) (n := (oneN ((bs s).drop i)).2) rfl h0; have H0 := Lib.hid h0; have HC := Lib.hid hc; clear h0 hc; go_wp2; go_ret2
   rw [H0.out, HC.out]; exact ⟨rfl, hb⟩
  by_cases hsz : s.size < i + k
  ·have h0 : (oneN ((bs s).drop i)).2 = 0 := by
    have h2 := HLE.out.1; have h3 := HN.out; rcases Nat.lt_or_ge (oneN ((bs s).drop i)).2 1 with h | h
    ·omega
    ·exact absurd rfl (h3 _ h (by omega))
   have hc := oneN_zero (l := (bs s).drop i) (c := (oneN ((bs s).drop i)).1) (n := (oneN ((bs s).drop i)).2) rfl h0; have H0 := Lib.hid h0; have HC := Lib.hid hc; have hk4 : k <= 4 := by omega
   clear h0 hc; go_wp2; go_ret2
   rw [H0.out, HC.out]; exact ⟨rfl, hb⟩
  have hk4 : k <= 4 := by omega
  have hik : i + k <= s.size := by omega
  clear hk hsz h5; have hz := hb.size
  have hex : bs (s.extract i (i + k)) = ((bs s).drop i).take k := by
   rw [bs_extract, List.drop_take]; congr 1; omega
  have hG := guess_any (s.extract i (i + k)) (((bs s).drop i).take k) wr hex (by simp [bs_length]; omega) (by simp; omega)
  have htx := Lib.hid (guess_text h1 hik); have hgi := Lib.hid (fun h => guess_is HLT.out h1 (n := k) h); clear hex; go_wp2_with fail; refine hG.mono ?_; clear hG; rintro e w2 ⟨rfl, hb2'⟩; have hb2 := hb.trans (hb2'.mono hz); have hz2 := hb2.size; clear hb2'; generalize guessN (((bs s).drop i).take k) = g at *; go_wp2_with fail; refine wp_region_under w2 (by kernel_rfl) (by kernel_rfl) (Below.refl _ _) ?_
  repeat (go_big_quiet_step ((go_at_call 108; exact Under.call _ (rPut_any g _))))
  by_cases hyes : (oneN ((bs s).drop i)).2 = k
  ·have hq : ((strOf (rputL g)).toList == (s.extract i (i + k)).toList) = true := toList_iff.2 (htx.out.2 hyes)
   have hgg := hgi.out hyes; have HY := Lib.hid hyes; have HG := Lib.hid hgg; rw [hq]; refine wpQuiet_nil ?_; rintro _ ⟨x, rfl⟩; have hb5 := hb2.trans (x.below.mono hz2); clear hyes hgg hq; go_wp2; go_ret2
   rw [HY.out]; exact ⟨by rw [HG.out]; rfl, hb5⟩
  ·have hq : ((strOf (rputL g)).toList == (s.extract i (i + k)).toList) = false := by
    rw [Bool.eq_false_iff]; exact fun h => hyes (htx.out.1 (toList_iff.1 h))
   have HN2 : Hid (∀ m, 1 <= m -> m < k + 1 -> (oneN ((bs s).drop i)).2 ≠ m) := by
    refine Lib.hid (fun m m1 m2 => ?_)
    by_cases hm : m = k
    ·subst hm; exact hyes
    ·exact HN.out m m1 (by omega)
   rw [hq]; refine wpQuiet_nil ?_; rintro _ ⟨x, rfl⟩; have hb5 := hb2.trans (x.below.mono hz2); clear hyes hq; go_wp2; go_roundw
   case rel => exact ⟨k + 1, by go_num, by omega, by omega, HN2.out, hb5⟩
   case measure => simp [intOf]; omega
theorem rBad_any (s : ByteArray) (w : World) (hs : s.size <= 1048576) :
  Calls Tryz.prog 54 #[.string s] w fun e w' => e = .returned (.int .i64 (badV (scan (bs s) 0).2)) /\ Below w.heap.size w w' := by
 go_enter Tryz.func54, Tryz.ntmps54; go_wp2_with fail; go_loopw [3] (fun i wr => ∃ (k : Nat) (pre : List (Nat × Nat)), i = .int .i64 k /\ k <= s.size /\ Rest (bs s) k pre /\ Below w.heap.size w wr) (fun i _ => s.size - (intOf i).toNat)
 case atStart => exact ⟨0, [], rfl, Nat.zero_le _, Rest.zero _, Below.refl _ _⟩
 case round =>
  obtain ⟨k, pre, rfl, hk, hr, hb⟩ := hrel; have HR := Lib.hid hr; have hz := hb.size; clear hr
  by_cases h : k < s.size
  ·obtain ⟨c, n, h1⟩ : ∃ c n, oneN ((bs s).drop k) = (c, n) := ⟨_, _, rfl⟩
   have hle := (oneN_le ((bs s).drop k) (fun x hx => bs_lt x (List.mem_of_mem_drop hx))).1; have hF := One_any s k wr hs hk; rw [h1] at hF hle; simp only [List.length_drop, bs_length] at hle; have H1 := Lib.hid h1; clear h1
   by_cases hn : n = 0
   ·subst hn
    have h2 := Lib.hid (HR.out.bad (by rw [bs_length]; exact h) (by rw [H1.out]))
    go_wp2_with fail; refine hF.mono ?_; clear hF; rintro e w1 ⟨rfl, hb1⟩; have hb2 := hb.trans (hb1.mono hz); go_wp2; go_ret; rw [h2.out]; exact ⟨rfl, hb2⟩
   ·have h2 := Lib.hid (HR.out.good (by rw [bs_length]; exact h) H1.out hn)
    have hbn : ((n : Int) == 0) = false := by rw [beq_eq_false_iff_ne]; omega
    have hn1 : 1 <= n := by omega
    clear hn; go_wp2_with fail; refine hF.mono ?_; clear hF; rintro e w1 ⟨rfl, hb1⟩; have hb2 := hb.trans (hb1.mono hz); go_wp2; go_roundw
    case rel => exact ⟨k + n, _, by go_num, by omega, h2.out, hb2⟩
    case measure => simp [intOf]; omega
  ·have h2 := Lib.hid (HR.out.done (by rw [bs_length]; omega))
   go_wp2; go_ret; rw [h2.out]; exact ⟨rfl, hb⟩
theorem rValid_any (s : ByteArray) (w : World) (hs : s.size <= 1048576) :
  Calls Tryz.prog 34 #[.string s] w fun e w' => e = .returned (.bool (scan (bs s) 0).2.isNone) /\ Below w.heap.size w w' := by
 go_enter Tryz.func34, Tryz.ntmps34; go_wp2_with fail; refine (rBad_any s w hs).mono ?_; rintro e w1 ⟨rfl, hb⟩; have h := badV_neg (scan (bs s) 0).2; generalize badV (scan (bs s) 0).2 = b at *; go_wp2; go_ret; exact ⟨rfl, hb⟩
end Go.Proofs.YthbhknfhmkhfgaaGreatDoor
namespace Go.Proofs.YthbhknfhmkhfgaaGreatDoor
set_option maxRecDepth 100000
set_option maxHeartbeats 20000000
open Go.RowKit Go.Tab Go.Shelf
attribute [local go_sem] Oper.semAt_some
theorem uAll_any (s : ByteArray) (w : World) :
  Calls Tryz.prog 142 #[.string s] w fun e w' => e = .returned (.func (.func 163) #[] #[.pointer (some ⟨w.heap.size, 0, none⟩)]) /\ w' = w.alloc (.cells #[.string s] 9) := by
 go_enter Tryz.func142, Tryz.ntmps142; go_wp2; go_ret; exact ⟨rfl, rfl⟩
def TwoKept (g : Nat) (A B : World) : Prop := A.heap.size <= B.heap.size /\ B.heap[3]? = A.heap[3]? /\ B.heap[g]? = A.heap[g]?
theorem TwoKept.refl (g : Nat) (A : World) : TwoKept g A A := ⟨Nat.le_refl _, rfl, rfl⟩
theorem TwoKept.trans {g : Nat} {A B C : World} (h : TwoKept g A B) (h2 : TwoKept g B C) : TwoKept g A C := ⟨Nat.le_trans h.1 h2.1, h2.2.1.trans h.2.1, h2.2.2.trans h.2.2⟩
theorem TwoKept.tab {g : Nat} {A B : World} (h : TwoKept g A B) (hT : Tab A) : Tab B := fun j hj => (World.cell?_of_block h.2.1).trans (hT j hj)
theorem TwoKept.box {g : Nat} {A B : World} (h : TwoKept g A B) {v : Value} (hc : A.cell? ⟨g, 0, none⟩ = some v) : B.cell? ⟨g, 0, none⟩ = some v := (World.cell?_of_block h.2.2).trans hc
theorem uAll1_in (n : Nat) (hn : 2 <= n) (l0 Bn : Nat) (s : ByteArray) (hs : s.size <= 1048576) (J Jx : List (Nat × Nat) -> World -> Prop)
  (hY : ∀ pre x W, J pre W -> pre.length < (scan (bs s) 0).1.length -> YieldAt Fence.wide (n - 1) Tryz.prog l0 #[.int .i64 (x.1 : Nat), .int .i64 (x.2 : Nat)] W fun e W' =>
   (e = .returned (.bool true) /\ J (pre ++ [x]) W' /\ TwoKept Bn W W') \/ (e = .returned (.bool false) /\ Jx (pre ++ [x]) W'))
  (W : World) (hBn : W.cell? ⟨Bn, 0, none⟩ = some (.string s)) (hT : Tab W) (h0 : J [] W) :
  CallsIn Fence.wide n Tryz.prog 163 #[.func (.yield l0) #[] #[], .pointer (some ⟨Bn, 0, none⟩)] W fun e W' => (∃ v, e = .returned v) /\
   ((∃ ys, ys = (scan (bs s) 0).1 /\ J ys W') \/ (∃ pre, pre <+: (scan (bs s) 0).1 /\ Jx pre W')) := by
 refine callsIn_of_wp Tryz.func163 rfl trivial ?_ rfl; simp only [Tryz.ntmps163, List.size_toArray, List.length_cons, List.length_nil, Nat.reduceAdd, Nat.reduceSub, Array.replicate_succ, Array.replicate_zero, List.push_toArray, List.append_toArray, List.nil_append, List.cons_append]
 gi_wp2
 gi_loopw [3] (fun i wr => ∃ (k : Nat) (pre : List (Nat × Nat)), i = .int .i64 k /\ k <= s.size /\ Rest (bs s) k pre /\ J pre wr /\ TwoKept Bn W wr)
  (fun i wr => s.size - (intOf i).toNat)
 case atStart => exact ⟨0, [], rfl, Nat.zero_le _, Rest.zero _, h0, TwoKept.refl _ _⟩
 case round =>
  obtain ⟨k, pre, rfl, hk, hr, hJ, hb⟩ := hrel; have HR := Lib.hid hr; have hbx := hb.box hBn; have hTr := hb.tab hT; clear hr
  by_cases h : k < s.size
  ·obtain ⟨c, m, h1⟩ : ∃ c m, oneN ((bs s).drop k) = (c, m) := ⟨_, _, rfl⟩
   have hle := (oneN_le ((bs s).drop k) (fun x hx => bs_lt x (List.mem_of_mem_drop hx))).1; have hF := first_any s k wr hTr (by omega)
   unfold firstPost at hF; rw [h1] at hF hle; simp only [List.length_drop, bs_length] at hle; have H1 := Lib.hid h1; have HF := Lib.hid hF; clear h1 hF
   by_cases hm : m = 0
   ·subst hm
    have h2 := Lib.hid (HR.out.bad (by rw [bs_length]; exact h) (by rw [H1.out]))
    clear hY
    gi_wp2
    refine ⟨trivial, fun _ => by omega, ?_⟩
    refine (callsIn_wide.2 HF.out).mono ?_; rintro e w9 ⟨rfl, rfl⟩; clear HF
    gi_wp2
    refine ⟨fun _ h => (by cases h), ?_⟩
    gi_wp2
    refine bodyPost_ret (results_none rfl _ _ _) rfl ?_; exact ⟨⟨_, rfl⟩, .inl ⟨pre, by rw [h2.out], hJ⟩⟩
   ·have h2 := Lib.hid (HR.out.good (by rw [bs_length]; exact h) H1.out hm)
    have hbn : ((m : Int) == 0) = false := by rw [beq_eq_false_iff_ne]; omega
    have hm1 : 1 <= m := by omega
    have hlt : pre.length < (scan (bs s) 0).1.length := by rw [h2.out]; simp
    obtain ⟨fn, tmps, assign, body, hy, hR⟩ := hY pre (k, c) wr hJ hlt; have hpre : Hid (pre ++ [(k, c)] <+: (scan (bs s) 0).1) := Lib.hid ⟨(scan ((bs s).drop (k + m)) (k + m)).1, by rw [h2.out]⟩
    clear hm hY
    gi_wp2
    refine ⟨trivial, fun _ => by omega, ?_⟩
    refine (callsIn_wide.2 HF.out).mono ?_; rintro e w9 ⟨rfl, rfl⟩; clear HF
    gi_wp2
    refine ⟨fun _ => by omega, hR.mono ?_⟩
    rintro e W3 (⟨rfl, hJ3, hk3⟩ | ⟨rfl, hJx3⟩)
    ·gi_wp2
     refine ⟨⟨k + m, pre ++ [(k, c)], by go_num, by omega, h2.out, hJ3, hb.trans hk3⟩, ?_⟩
     simp [intOf]; omega
    ·gi_wp2
     refine bodyPost_ret (results_none rfl _ _ _) rfl ?_; exact ⟨⟨_, rfl⟩, .inr ⟨_, hpre.out, hJx3⟩⟩
  ·have h2 := Lib.hid (HR.out.done (by rw [bs_length]; omega))
   clear hY
   gi_wp2
   refine bodyPost_end (results_none rfl _ _ _) rfl ?_; exact ⟨⟨_, rfl⟩, .inl ⟨pre, by rw [h2.out], hJ⟩⟩
attribute [local go_sem] Oper.semAt_some
theorem oneN_take4 (l : List Nat) : oneN (l.take 4) = oneN l := by
 match l with
 | [] => rfl
 | [_] => rfl
 | [_, _] => rfl
 | [_, _, _] => rfl
 | [_, _, _, _] => rfl
 | a :: b :: c :: d :: e :: r => rfl
def OkW (g : Nat) (s : ByteArray) (w : World) (v : Value) (k' : Nat) (l' : List UInt8) (e : Ending) (w' : World) : Prop :=
 e = .returned v /\ RdrAt w' g s k' l' /\ Below g w w'
def ScalP (g : Nat) (s : ByteArray) (w : World) (k : Nat) (l : List UInt8) (L : List Nat) (e : Ending) (w' : World) : Prop :=
 ((oneN L).2 ≠ 0 /\ OkW g s w (.tuple #[]) (k + (oneN L).2) (l ++ un (L.take (oneN L).2)) e w') \/ ((oneN L).2 = 0 /\ BadR g w 7 e w')
theorem extract_bs (s : ByteArray) (a b : Nat) : bs (s.extract a b) = ((bs s).drop a).take (b - a) := by
 simp [bs, List.map_drop, List.map_take, List.drop_take]
def putX (c : Nat) : List UInt8 := if isSc c then putU c else []
theorem putX_len (c : Nat) : (putX c).length <= 4 := by
 unfold putX; split
 ·rw [putU_length]; exact (wid_pos c).2
 ·simp
theorem PutX_any (c : Nat) (w : World) : Calls Tryz.prog 160 #[.int .i64 c] w fun e w' => e = .returned (.tuple #[.string (strOf (putX c)), .bool (isSc c)]) /\ Below w.heap.size w w' := by
 unfold putX
 cases h : isSc c with
 | true =>
  refine (Put_any c w h).mono ?_; rintro e w' ⟨rfl, hb⟩; exact ⟨by simp, hb⟩
 | false =>
  refine (Put_none (c : Int) w (by rw [isScI_nat]; exact h)).mono ?_
  rintro e w' ⟨rfl, rfl⟩; exact ⟨rfl, Below.refl _ _⟩
theorem RdrAt.kept {w w' : World} {g : Nat} {s : ByteArray} {k : Nat} {l : List UInt8} {row : Option Nat} (h : RdrAt w g s k l) (hg : w.grownBy w' row) (hr : ∀ r, row = some r -> ∃ o : Obj, w.heap[r]? = some o /\ o.isCells = false) : RdrAt w' g s k l := by
 obtain ⟨cs, ⟨h1, h2, v, h3, h4⟩, h5⟩ := h
 have hrow : v.ownBlock = none \/ v.ownBlock ≠ row := by
  cases hv : v.ownBlock with
  | none => exact .inl rfl
  | some b =>
   refine .inr fun e => ?_; obtain ⟨o, ho, hc⟩ := hr _ e.symm; obtain ⟨cs', fr, hb⟩ := own_is_row h4 b hv; rw [hb] at ho; cases ho; cases hc
 refine ⟨cs, ⟨h1.kept hg ?_, h2, v, h3, h4.kept hg hrow⟩, h5⟩; intro e; obtain ⟨o, ho, hc⟩ := hr _ e.symm; rw [show w.heap[g]? = _ from h1] at ho; cases ho; cases hc
theorem keeps_beside {E : TypeId} {B g : Nat} {w w' : World} {cs : Array Value} {t : TypeId} (h : Beside E g w w') (hg : Cells w g cs t) : KeepsFrom B w w' :=
 ⟨h.1, fun k o _ hk ho => h.2 k o (by rintro rfl; rw [show w.heap[k]? = _ from hg] at hk; cases hk; cases ho) hk (fun cs' fr e => by subst e; cases ho)⟩
def ScI (w : World) (g : Nat) (s : ByteArray) (k : Nat) (l : List UInt8) (pre : List (Nat × Nat)) (W : World) : Prop :=
 (pre = [] /\ RdrAt W g s k l /\ Cells W w.heap.size #[.pointer (some ⟨g, 0, none⟩)] 127) /\ Below g w W
def ScX (w : World) (g : Nat) (s : ByteArray) (k : Nat) (l : List UInt8) (c : Code) (pre : List (Nat × Nat)) (W : World) : Prop :=
 (c = .ret /\ ∃ x : Nat × Nat, pre = [x] /\ RdrAt W g s (k + (putX x.2).length) (l ++ putX x.2)) /\ Below g w W
theorem ScI_own (w : World) (g : Nat) (s : ByteArray) (k : Nat) (l : List UInt8) (L : Nat) (hg : g <= w.heap.size) (hL : g <= L) : OwnFrom L (ScI w g s k l) :=
 OwnFrom.and (Own.from (fun pre A B row hs hg' hr => ⟨hs.1, hs.2.1.kept hg' hr, hs.2.2.kept hg' (fun e' => by
  obtain ⟨o, ho, hc⟩ := hr _ e'.symm
  rw [show A.heap[w.heap.size]? = _ from hs.2.2] at ho; cases ho; cases hc)⟩) _) (ownFrom_below hg hL)
theorem ScX_own (w : World) (g : Nat) (s : ByteArray) (k : Nat) (l : List UInt8) (L : Nat) (hg : g <= w.heap.size) (hL : g <= L) (c : Code) : OwnFrom L (ScX w g s k l c) :=
 OwnFrom.and (Own.from (fun pre A B row hs hg' hr => by
  obtain ⟨h1, x, h2, h3⟩ := hs
  exact ⟨h1, x, h2, h3.kept hg' hr⟩) _) (ownFrom_below hg hL)
theorem TwoKept.put (g : Nat) (w : World) (h0 : 3 < w.heap.size) (hg : g < w.heap.size) (W : World) (l : Nat) (o o' : Obj) (hl : w.heap.size <= l) (_ : W.heap[l]? = some o) (_ : o.isCells = false) (_ : o.isWalk = false) : TwoKept g W (W.putObj l o') :=
 ⟨(grownBy_putObj' W l o').size, World.putObj_heap_other (by omega), World.putObj_heap_other (by omega)⟩
theorem uAll_stops (n : Nat) (hn : 2 <= n) (Bn : Nat) (s : ByteArray) (hs : s.size <= 1048576) (w : World) (hBn : Bn < w.heap.size)
  (hc : w.cell? ⟨Bn, 0, none⟩ = some (.string s)) (hT : Tab w) :
  SeqStopsK Fence.wide n Tryz.prog 163 #[.pointer (some ⟨Bn, 0, none⟩)] (fun x : Nat × Nat => #[.int .i64 (x.1 : Nat), .int .i64 (x.2 : Nat)]) (TwoKept Bn) (fun ys => ys = (scan (bs s) 0).1) (fun pre => pre <+: (scan (bs s) 0).1) (scan (bs s) 0).1.length w := fun l0 J Jx W hW _ _ hY h0 =>
 uAll1_in n hn l0 Bn s hs J Jx hY W ((hW.cell (p := ⟨Bn, 0, none⟩) hBn).trans hc) (hT.below hW hT.pos) h0
theorem scalar_any (w : World) (g : Nat) (s : ByteArray) (k : Nat) (l : List UInt8) (h : RdrAt w g s k l) (hk : k < s.size) (hs : s.size <= 1048576) (hl : l.length <= 9000000) (hT : Tab w) :
  Calls Tryz.prog 137 #[.pointer (some ⟨g, 0, none⟩)] w (ScalP g s w k l ((bs s).drop k)) := by
 refine (callsIn_wide (n := 9)).1 ?_; have hR0 := h.below ((Below.refl _ w).alloc (Nat.le_refl _) (.cells #[.pointer (some ⟨g, 0, none⟩)] 127)); have hlt := h.lt; obtain ⟨cs, hb, h5, h6, h7⟩ := id hR0; have c0 := hb.cells.cell 0 _ h6; have c1 := hb.cells.cell 1 _ h7; have c9 := (Cells.new w #[.pointer (some ⟨g, 0, none⟩)] 127).cell 0 _ rfl; clear hb h5 h6 h7
 by_cases hk4 : k + 4 <= s.size
 ·have hmin : min ((k : Int) + 4) (s.size : Int) = (k : Int) + 4 := by omega
  obtain ⟨R, hR⟩ : ∃ R, R = s.extract k ((k : Int) + 4).toNat := ⟨_, rfl⟩; refine callsIn_of_wp_marks Tryz.func137 rfl trivial ?_ rfl; simp only [Tryz.ntmps137, List.size_toArray, List.length_cons, List.length_nil, Nat.reduceAdd, Nat.reduceSub, Array.replicate_succ, Array.replicate_zero, List.push_toArray, List.append_toArray, List.nil_append, List.cons_append]; have hRr := Lib.hid hR; have hsl : s.extract k ((k : Int) + 4).toNat = R := hR.symm
  gi_wp2
  have hRb : bs R = ((bs s).drop k).take 4 := by rw [hR, extract_bs]; congr 1; omega
  have hRne : bs R ≠ [] := by rw [hRb]; intro h0; have := congrArg List.length h0; simp [bs_length] at this; omega
  clear hR
  gi_quiet (fail)
  have hw0 : ∃ w0, w0 = (w.alloc (.cells #[.pointer (some ⟨g, 0, none⟩)] 127)).drewN nq := ⟨_, rfl⟩; obtain ⟨w0, hw0⟩ := hw0; rw [<- hw0]; have hR1 : RdrAt w0 g s k l := by rw [hw0]; exact hR0.drewN _
  have hC1 : Cells w0 w.heap.size #[.pointer (some ⟨g, 0, none⟩)] 127 := by rw [hw0]; exact (Cells.new w _ _).drewN _
  have hb1 : Below w.heap.size w w0 := by rw [hw0]; exact Below.drewN' ((Below.refl _ w).alloc (Nat.le_refl _) _) _
  have hz0 : w0.heap.size = w.heap.size + 1 := by rw [hw0]; simp
  have HA := Lib.hid (uAll_any R w0); have HZ := Lib.hid hz0; clear c0 c1 c9 hw0 hmin hz0
  gi_wp2
  refine ⟨trivial, (callsIn_wide.2 HA.out).mono ?_⟩; rintro e w1 ⟨rfl, hw1⟩; clear HA; have hz0 := HZ.out; have hz1 : w1.heap.size = w.heap.size + 2 := by rw [hw1]; simp [hz0]
  have hb2' : Below w0.heap.size w0 w1 := by rw [hw1]; exact (Below.refl _ _).alloc (Nat.le_refl _) _
  have hcB : w1.cell? ⟨w.heap.size + 1, 0, none⟩ = some (.string R) := by
   have h := World.cell?_alloc_new (w := w0) #[.string R] 9 0; rw [hz0] at h; rw [hw1]; exact h
  have hR2 := hR1.below hb2'; have hC2 := hC1.below hb2' hC1.lt; have hb2 : Below w.heap.size w w1 := hb1.trans (hb2'.mono (by omega))
  have hT1 := hT.below hb2 hT.pos; have h0w := hT.pos; rw [hz0]; clear hw1 hb2' hR1 hC1 hb1 hz0; have hneq : Sem.run Tryz.prog (binOp .neq 150 (Value.func (Fn.func 163) #[] #[Value.pointer (some { block := w.heap.size + 1, off := 0 })]) Value.nilFunc) w1 = .ok (.bool true) w1 := by rfl
  gi_wp2
  have hwL : g <= w1.heap.size := by omega
  refine wpIn_rangeFunc_ownG rfl (by omega) (gf := 163) (lb := #[.pointer (some ⟨w.heap.size + 1, 0, none⟩)]) rfl trivial (enters_of Tryz.func163 (by kernel_rfl) rfl)
   (uAll_stops 8 (by omega) (w.heap.size + 1) R (by rw [<- bs_length, hRb]; simp; omega) w1 (by omega) hcB hT1) TwoKept.trans (TwoKept.put (w.heap.size + 1) w1 (by omega) (by omega)) (Below.refl _ _) (fun _ => rfl)
   (ScI w g s k l) (ScX w g s k l) (ScI_own w g s k l _ (by omega) hwL) (ScX_own w g s k l _ (by omega) hwL)
   ⟨⟨rfl, hR2, hC2⟩, hb2.mono (by omega)⟩
   (fun x => { tmps := #[.pointer (some ⟨g, 0, none⟩), .pointer (some ⟨w.heap.size, 0, none⟩), .string R, undef, .int .i64 (x.2 : Nat), undef, undef, .pointer (some ⟨g, 0, none⟩), .pointer (some ⟨g, 0, none⟩), .pointer (some ⟨g, 0, none⟩), .string s, .pointer (some ⟨g, 0, none⟩), .pointer (some ⟨g, 0, none⟩), .pointer (some ⟨g, 1, none⟩), .int .i64 (k : Int), .pointer (some ⟨g, 0, none⟩), .pointer (some ⟨g, 0, none⟩), .pointer (some ⟨g, 1, none⟩), .int .i64 (k : Int), .int .i64 ((k : Int) + 4), .pointer (some ⟨g, 0, none⟩), .pointer (some ⟨g, 0, none⟩), .pointer (some ⟨g, 0, none⟩), .string s, .int .i64 (s.size : Int), .int .i64 ((k : Int) + 4), .string R, .string R, .func (.func 163) #[] #[.pointer (some ⟨w.heap.size + 1, 0, none⟩)], .int .i64 (x.1 : Nat), .int .i64 (x.2 : Nat), undef, undef, undef, undef, undef, undef, undef, undef, undef, undef, undef, undef, undef, undef, undef, undef, undef, undef, undef, undef], defers := [] }) ?assign ?body ?done ?stop
  case assign =>
   intro l x W K hK
   gi_wp2
   exact hK
  case body =>
   rintro l0 pre x W ⟨⟨rfl, hRW, hCW⟩, hbW⟩ -; have hltW := hRW.lt; have hPX := PutX_any x.2 W; have hplen := putX_len x.2; have hpsz : (strOf (putX x.2)).size = (putX x.2).length := strOf_size _; generalize hpx : putX x.2 = px at *; have HPX := Lib.hid hpx; have HPS := Lib.hid hpsz; clear hpx hpsz; have hcw := hCW.cell 0 _ rfl
   gi_wp2
   refine ⟨trivial, (CallsIn.inRound l0 (callsIn_wide.2 hPX)).mono ?_⟩; rintro e w3 ⟨rfl, hb3⟩; have hz3 := hb3.size; have hR3 := hRW.below hb3; have hC3 := hCW.below hb3 hCW.lt; have hcw3 := hC3.cell 0 _ rfl; have hWS := rWS w3 g s k l (strOf px) hR3 (by rw [HPS.out]; omega)
   gi_wp2
   refine ⟨trivial, (CallsIn.inRound l0 (callsIn_wide.2 hWS)).mono ?_⟩; rintro e w4 ⟨rfl, hR4, hb4, hB4⟩; obtain ⟨cs4, hb4', h54, h64, h74⟩ := id hR4; have c14 := hb4'.cells.cell 1 _ h74; have f14 := hb4'.cells.frozen 1; have hC4 := hB4.cells hC3 (by omega) (by decide)
   have hcw4 := hC4.cell 0 _ rfl; clear hb4' h54 h64 h74; have hR5 := hR4.moved (k + px.length); obtain ⟨cw, hcw', -⟩ := id hRW; have hkeep := keeps_beside (B := w1.heap.size) (((Beside.of_below (E := 5) (g := g) hb3).trans hB4).setCell 1 (.int .i64 ((k + px.length : Nat) : Int))) hcw'.cells; have hbW5 := ((hbW.trans (hb3.mono (by omega))).trans hb4).setCell (p := ⟨g, 1, none⟩) (Nat.le_refl _) (.int .i64 ((k + px.length : Nat) : Int))
   have hl4 := HPS.out
   gi_wp2
   exact ⟨hkeep, ⟨rfl, x, rfl, by rw [HPX.out]; exact hR5⟩, hbW5⟩
  case done =>
   rintro D ys W hD hys ⟨⟨rfl, hRW, hCW⟩, hbW⟩ hK
   have h0 : (oneN ((bs s).drop k)).2 = 0 := by
    rw [<- oneN_take4, <- hRb]; exact Decidable.byContradiction fun hn => by rw [scan_step hRne, if_neg hn] at hys; cases hys
   gi_wp2
   refine ⟨trivial, (callsIn_wide.2 (fail_any 7 W)).mono ?_⟩; rintro e w3 ⟨rfl, rfl⟩
   gi_wp2
   refine ⟨by simp, .inl ⟨_, _, rfl, run_takeDeferred hK, ?_⟩⟩
   exact .inr ⟨h0, rfl, hbW.trans ((belowK_b (w := w) (Nat.le_refl _) W D _ _ (by omega) hK rfl rfl).mono (by omega))⟩
  case stop =>
   rintro D c pre W hD hpre ⟨⟨rfl, x, rfl, hRW⟩, hbW⟩ hK
   have hx : (oneN ((bs s).drop k)).2 ≠ 0 /\ putX x.2 = un (((bs s).drop k).take (oneN ((bs s).drop k)).2) /\ (putX x.2).length = (oneN ((bs s).drop k)).2 := by
    rw [<- oneN_take4, <- hRb]; have hn : (oneN (bs R)).2 ≠ 0 := fun hn => by rw [scan_bad hRne hn] at hpre; simp at hpre
    rw [scan_step hRne, if_neg hn] at hpre; obtain ⟨t, ht⟩ := hpre; simp only [List.cons_append, List.nil_append, List.cons.injEq] at ht; obtain ⟨rfl, -⟩ := ht; obtain ⟨q1, q2, q3, q4⟩ := put_oneN (l := bs R) (c := (oneN (bs R)).1) (n := (oneN (bs R)).2) bs_lt (by rfl) hn
    have e1 : putX (oneN (bs R)).1 = putU (oneN (bs R)).1 := by unfold putX; rw [if_pos q1]
    refine ⟨hn, ?_, ?_⟩
    ·rw [e1]
     show un (putN _) = _; rw [q3, hRb, List.take_take, Nat.min_eq_left (by rw [<- hRb]; exact (oneN_le _ bs_lt).2)]
    ·rw [e1, putU_length, q2]
   gi_wp2
   refine ⟨by simp, .inl ⟨_, _, rfl, run_takeDeferred hK, ?_⟩⟩
   refine ⟨_, results_none rfl _ _ _, .inl ⟨hx.1, rfl, ?_, ?_⟩⟩
   ·have := hRW.kept (grownBy_putObj' W D (.deferred none)) (fun r e => by cases e; exact ⟨_, hK, rfl⟩)
    rw [hx.2.2, hx.2.1] at this; exact this
   ·exact hbW.trans ((belowK_b (w := w) (Nat.le_refl _) W D _ _ (by omega) hK rfl rfl).mono (by omega))
 ·have hmin : min ((k : Int) + 4) (s.size : Int) = (s.size : Int) := by omega
  obtain ⟨R, hR⟩ : ∃ R, R = s.extract k s.size := ⟨_, rfl⟩; refine callsIn_of_wp_marks Tryz.func137 rfl trivial ?_ rfl; simp only [Tryz.ntmps137, List.size_toArray, List.length_cons, List.length_nil, Nat.reduceAdd, Nat.reduceSub, Array.replicate_succ, Array.replicate_zero, List.push_toArray, List.append_toArray, List.nil_append, List.cons_append]; have hRr := Lib.hid hR; have hsl : s.extract k s.size = R := hR.symm
  gi_wp2
  have hRb : bs R = ((bs s).drop k).take 4 := by rw [hR, extract_bs]; rw [List.take_of_length_le (by simp [bs_length]), List.take_of_length_le (by simp [bs_length]; omega)]
  have hRne : bs R ≠ [] := by rw [hRb]; intro h0; have := congrArg List.length h0; simp [bs_length] at this; omega
  clear hR
  gi_quiet (fail)
  have hw0 : ∃ w0, w0 = (w.alloc (.cells #[.pointer (some ⟨g, 0, none⟩)] 127)).drewN nq := ⟨_, rfl⟩; obtain ⟨w0, hw0⟩ := hw0; rw [<- hw0]; have hR1 : RdrAt w0 g s k l := by rw [hw0]; exact hR0.drewN _
  have hC1 : Cells w0 w.heap.size #[.pointer (some ⟨g, 0, none⟩)] 127 := by rw [hw0]; exact (Cells.new w _ _).drewN _
  have hb1 : Below w.heap.size w w0 := by rw [hw0]; exact Below.drewN' ((Below.refl _ w).alloc (Nat.le_refl _) _) _
  have hz0 : w0.heap.size = w.heap.size + 1 := by rw [hw0]; simp
  have HA := Lib.hid (uAll_any R w0); have HZ := Lib.hid hz0; clear c0 c1 c9 hw0 hmin hz0
  gi_wp2
  refine ⟨trivial, (callsIn_wide.2 HA.out).mono ?_⟩; rintro e w1 ⟨rfl, hw1⟩; clear HA; have hz0 := HZ.out; have hz1 : w1.heap.size = w.heap.size + 2 := by rw [hw1]; simp [hz0]
  have hb2' : Below w0.heap.size w0 w1 := by rw [hw1]; exact (Below.refl _ _).alloc (Nat.le_refl _) _
  have hcB : w1.cell? ⟨w.heap.size + 1, 0, none⟩ = some (.string R) := by
   have h := World.cell?_alloc_new (w := w0) #[.string R] 9 0; rw [hz0] at h; rw [hw1]; exact h
  have hR2 := hR1.below hb2'; have hC2 := hC1.below hb2' hC1.lt; have hb2 : Below w.heap.size w w1 := hb1.trans (hb2'.mono (by omega))
  have hT1 := hT.below hb2 hT.pos; have h0w := hT.pos; rw [hz0]; clear hw1 hb2' hR1 hC1 hb1 hz0; have hneq : Sem.run Tryz.prog (binOp .neq 150 (Value.func (Fn.func 163) #[] #[Value.pointer (some { block := w.heap.size + 1, off := 0 })]) Value.nilFunc) w1 = .ok (.bool true) w1 := by rfl
  gi_wp2
  have hwL : g <= w1.heap.size := by omega
  refine wpIn_rangeFunc_ownG rfl (by omega) (gf := 163) (lb := #[.pointer (some ⟨w.heap.size + 1, 0, none⟩)]) rfl trivial (enters_of Tryz.func163 (by kernel_rfl) rfl)
   (uAll_stops 8 (by omega) (w.heap.size + 1) R (by rw [<- bs_length, hRb]; simp; omega) w1 (by omega) hcB hT1) TwoKept.trans (TwoKept.put (w.heap.size + 1) w1 (by omega) (by omega)) (Below.refl _ _) (fun _ => rfl)
   (ScI w g s k l) (ScX w g s k l) (ScI_own w g s k l _ (by omega) hwL) (ScX_own w g s k l _ (by omega) hwL)
   ⟨⟨rfl, hR2, hC2⟩, hb2.mono (by omega)⟩
   (fun x => { tmps := #[.pointer (some ⟨g, 0, none⟩), .pointer (some ⟨w.heap.size, 0, none⟩), .string R, undef, .int .i64 (x.2 : Nat), undef, undef, .pointer (some ⟨g, 0, none⟩), .pointer (some ⟨g, 0, none⟩), .pointer (some ⟨g, 0, none⟩), .string s, .pointer (some ⟨g, 0, none⟩), .pointer (some ⟨g, 0, none⟩), .pointer (some ⟨g, 1, none⟩), .int .i64 (k : Int), .pointer (some ⟨g, 0, none⟩), .pointer (some ⟨g, 0, none⟩), .pointer (some ⟨g, 1, none⟩), .int .i64 (k : Int), .int .i64 ((k : Int) + 4), .pointer (some ⟨g, 0, none⟩), .pointer (some ⟨g, 0, none⟩), .pointer (some ⟨g, 0, none⟩), .string s, .int .i64 (s.size : Int), .int .i64 ((s.size : Int)), .string R, .string R, .func (.func 163) #[] #[.pointer (some ⟨w.heap.size + 1, 0, none⟩)], .int .i64 (x.1 : Nat), .int .i64 (x.2 : Nat), undef, undef, undef, undef, undef, undef, undef, undef, undef, undef, undef, undef, undef, undef, undef, undef, undef, undef, undef, undef], defers := [] }) ?assign ?body ?done ?stop
  case assign =>
   intro l x W K hK
   gi_wp2
   exact hK
  case body =>
   rintro l0 pre x W ⟨⟨rfl, hRW, hCW⟩, hbW⟩ -; have hltW := hRW.lt; have hPX := PutX_any x.2 W; have hplen := putX_len x.2; have hpsz : (strOf (putX x.2)).size = (putX x.2).length := strOf_size _; generalize hpx : putX x.2 = px at *; have HPX := Lib.hid hpx; have HPS := Lib.hid hpsz; clear hpx hpsz; have hcw := hCW.cell 0 _ rfl
   gi_wp2
   refine ⟨trivial, (CallsIn.inRound l0 (callsIn_wide.2 hPX)).mono ?_⟩; rintro e w3 ⟨rfl, hb3⟩; have hz3 := hb3.size; have hR3 := hRW.below hb3; have hC3 := hCW.below hb3 hCW.lt; have hcw3 := hC3.cell 0 _ rfl; have hWS := rWS w3 g s k l (strOf px) hR3 (by rw [HPS.out]; omega)
   gi_wp2
   refine ⟨trivial, (CallsIn.inRound l0 (callsIn_wide.2 hWS)).mono ?_⟩; rintro e w4 ⟨rfl, hR4, hb4, hB4⟩; obtain ⟨cs4, hb4', h54, h64, h74⟩ := id hR4; have c14 := hb4'.cells.cell 1 _ h74; have f14 := hb4'.cells.frozen 1; have hC4 := hB4.cells hC3 (by omega) (by decide)
   have hcw4 := hC4.cell 0 _ rfl; clear hb4' h54 h64 h74; have hR5 := hR4.moved (k + px.length); obtain ⟨cw, hcw', -⟩ := id hRW; have hkeep := keeps_beside (B := w1.heap.size) (((Beside.of_below (E := 5) (g := g) hb3).trans hB4).setCell 1 (.int .i64 ((k + px.length : Nat) : Int))) hcw'.cells; have hbW5 := ((hbW.trans (hb3.mono (by omega))).trans hb4).setCell (p := ⟨g, 1, none⟩) (Nat.le_refl _) (.int .i64 ((k + px.length : Nat) : Int))
   have hl4 := HPS.out
   gi_wp2
   exact ⟨hkeep, ⟨rfl, x, rfl, by rw [HPX.out]; exact hR5⟩, hbW5⟩
  case done =>
   rintro D ys W hD hys ⟨⟨rfl, hRW, hCW⟩, hbW⟩ hK
   have h0 : (oneN ((bs s).drop k)).2 = 0 := by
    rw [<- oneN_take4, <- hRb]; exact Decidable.byContradiction fun hn => by rw [scan_step hRne, if_neg hn] at hys; cases hys
   gi_wp2
   refine ⟨trivial, (callsIn_wide.2 (fail_any 7 W)).mono ?_⟩; rintro e w3 ⟨rfl, rfl⟩
   gi_wp2
   refine ⟨by simp, .inl ⟨_, _, rfl, run_takeDeferred hK, ?_⟩⟩
   exact .inr ⟨h0, rfl, hbW.trans ((belowK_b (w := w) (Nat.le_refl _) W D _ _ (by omega) hK rfl rfl).mono (by omega))⟩
  case stop =>
   rintro D c pre W hD hpre ⟨⟨rfl, x, rfl, hRW⟩, hbW⟩ hK
   have hx : (oneN ((bs s).drop k)).2 ≠ 0 /\ putX x.2 = un (((bs s).drop k).take (oneN ((bs s).drop k)).2) /\ (putX x.2).length = (oneN ((bs s).drop k)).2 := by
    rw [<- oneN_take4, <- hRb]; have hn : (oneN (bs R)).2 ≠ 0 := fun hn => by rw [scan_bad hRne hn] at hpre; simp at hpre
    rw [scan_step hRne, if_neg hn] at hpre; obtain ⟨t, ht⟩ := hpre; simp only [List.cons_append, List.nil_append, List.cons.injEq] at ht; obtain ⟨rfl, -⟩ := ht; obtain ⟨q1, q2, q3, q4⟩ := put_oneN (l := bs R) (c := (oneN (bs R)).1) (n := (oneN (bs R)).2) bs_lt (by rfl) hn
    have e1 : putX (oneN (bs R)).1 = putU (oneN (bs R)).1 := by unfold putX; rw [if_pos q1]
    refine ⟨hn, ?_, ?_⟩
    ·rw [e1]
     show un (putN _) = _; rw [q3, hRb, List.take_take, Nat.min_eq_left (by rw [<- hRb]; exact (oneN_le _ bs_lt).2)]
    ·rw [e1, putU_length, q2]
   gi_wp2
   refine ⟨by simp, .inl ⟨_, _, rfl, run_takeDeferred hK, ?_⟩⟩
   refine ⟨_, results_none rfl _ _ _, .inl ⟨hx.1, rfl, ?_, ?_⟩⟩
   ·have := hRW.kept (grownBy_putObj' W D (.deferred none)) (fun r e => by cases e; exact ⟨_, hK, rfl⟩)
    rw [hx.2.2, hx.2.1] at this; exact this
   ·exact hbW.trans ((belowK_b (w := w) (Nat.le_refl _) W D _ _ (by omega) hK rfl rfl).mono (by omega))
end Go.Proofs.YthbhknfhmkhfgaaGreatDoor
