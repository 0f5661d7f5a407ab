/- Texts of this claim, one behind the other: UtfC, UtfD, QuoA, QuoB, QuoC, UtfG, UtfH, UtfI, UtfK, QuoD, QuoE, QuoF. -/
import Derived.Test.YtbcdaaobbebooaaGreatDoorMga
import Derived.Test.YtbcdaaobbebooaaGreatDoorMgb
import Derived.Laws.IdiomStrings
import Derived.Deep.QuietTactic
import Derived.BigQuiet
import Derived.RangeFuncNested
import Derived.RangeFuncBound
import Derived.RangeFuncBox
import Derived.RangeFuncCalls
import Derived.RangeFuncLeaves
import Derived.Shelf.Abstract
import Derived.Shelf.RegionOpen
import Derived.WalkKit
import Derived.OwnWalkIn
import Derived.TacticsInMore
import Derived.LoopNIn
import Derived.LoopIn
import Derived.Maps.AppendAt
import Derived.Sort.QuietIn
import Derived.RegionIn
import Derived.Defers
import Derived.Recover
set_option linter.unusedSimpArgs false
set_option linter.unusedVariables false
namespace Go.Proofs.YtbcdaaobbebooaaGreatDoor
set_option maxRecDepth 100000
set_option maxHeartbeats 20000000
open Go.RowKit Go.Tab
def badV : Option Nat -> Int
 | none => -1
 | some a => a
def Rest (l : List Nat) (k : Nat) (pre : List (Nat × Nat)) : Prop := scan l 0 = (pre ++ (scan (l.drop k) k).1, (scan (l.drop k) k).2)
theorem Rest.zero (l : List Nat) : Rest l 0 [] := by simp [Rest]
theorem Rest.bad {l : List Nat} {k : Nat} {pre : List (Nat × Nat)} (h : Rest l k pre) (hk : k < l.length) (h1 : (oneN (l.drop k)).2 = 0) : scan l 0 = (pre, some k) := by
 have hne : l.drop k ≠ [] := by intro h; have := congrArg List.length h; simp at this; omega
 rw [h, scan_bad hne h1]; simp
theorem Rest.good {l : List Nat} {k c n : Nat} {pre : List (Nat × Nat)} (h : Rest l k pre) (hk : k < l.length) (h1 : oneN (l.drop k) = (c, n)) (hn : n ≠ 0) : Rest l (k + n) (pre ++ [(k, c)]) := by
 have hne : l.drop k ≠ [] := by intro h; have := congrArg List.length h; simp at this; omega
 unfold Rest at h ⊢; rw [h, scan_good hne h1 hn, List.drop_drop]; simp
theorem Rest.done {l : List Nat} {k : Nat} {pre : List (Nat × Nat)} (h : Rest l k pre) (hk : k = l.length) : scan l 0 = (pre, none) := by
 rw [h, hk, List.drop_length, scan_nil]; simp
theorem scan_lt : ∀ (m : Nat) (l : List Nat) (a k : Nat), l.length <= m -> (∀ x ∈ l, x < 256) -> (scan l a).2 = some k -> k < a + l.length
 | m, l, a, k, hm, hl, h => by
  by_cases h0 : l = []
  ·subst h0; simp [scan_nil] at h
  have hp := List.length_pos_iff.2 h0
  by_cases hn : (oneN l).2 = 0
  ·rw [scan_bad h0 hn] at h; simp at h; omega
  ·have hle := (oneN_le l hl).1
   cases m with
   | zero => omega
   | succ m =>
    rw [scan_step h0, if_neg hn] at h; have := scan_lt m (l.drop (oneN l).2) (a + (oneN l).2) k (by simp; omega) (fun x hx => hl x (List.mem_of_mem_drop hx)) h
    simp at this; omega
theorem Bad_any (s : ByteArray) (w : World) (hT : Tab w) (hs : s.size <= 1048576) :
  Calls Tryz.prog 190 #[.string s] w fun e w' => e = .returned (.int .i64 (badV (scan (bs s) 0).2)) /\ w = w' := by
 go_enter Tryz.func190, Tryz.ntmps190; go_wp2_with fail; go_loop [3] (fun i => ∃ (k : Nat) (pre : List (Nat × Nat)), i = .int .i64 k /\ k <= s.size /\ Rest (bs s) k pre) (fun i => s.size - (intOf i).toNat)
 case atStart => exact ⟨0, [], rfl, Nat.zero_le _, Rest.zero _⟩
 case round =>
  obtain ⟨k, pre, rfl, hk, hr⟩ := hrel; have HR := Lib.hid hr; clear hr
  by_cases h : k < s.size
  ·obtain ⟨c, n, h1⟩ : ∃ c n, oneN ((bs s).drop k) = (c, n) := ⟨_, _, rfl⟩
   have hle := (oneN_le ((bs s).drop k) (fun x hx => bs_lt x (List.mem_of_mem_drop hx))).1; have hF := first_any s k w hT hs; unfold firstPost at hF; rw [h1] at hF hle; simp only [List.length_drop, bs_length] at hle; have H1 := Lib.hid h1; clear h1
   by_cases hn : n = 0
   ·subst hn
    have h2 := Lib.hid (HR.out.bad (by rw [bs_length]; exact h) (by rw [H1.out]))
    go_wp2_with fail; refine hF.mono ?_; clear hF; rintro e w1 ⟨rfl, rfl⟩; go_wp2; go_ret; rw [h2.out]; exact ⟨rfl, rfl⟩
   ·have h2 := Lib.hid (HR.out.good (by rw [bs_length]; exact h) H1.out hn)
    have hb : ((n : Int) == 0) = false := by rw [beq_eq_false_iff_ne]; omega
    have hn1 : 1 <= n := by omega
    clear hn; go_wp2_with fail; refine hF.mono ?_; clear hF; rintro e w1 ⟨rfl, rfl⟩; go_wp2; go_round
    case rel => exact ⟨k + n, _, by go_num, by omega, h2.out⟩
    case measure => simp [intOf]; omega
  ·have h2 := Lib.hid (HR.out.done (by rw [bs_length]; omega))
   go_wp2; go_ret; rw [h2.out]; exact ⟨rfl, rfl⟩
def countV (r : List (Nat × Nat) × Option Nat) : Nat := if r.2.isNone then r.1.length else 0
theorem Count_any (s : ByteArray) (w : World) (hT : Tab w) (hs : s.size <= 1048576) :
  Calls Tryz.prog 110 #[.string s] w fun e w' => e = .returned (.tuple #[.int .i64 (countV (scan (bs s) 0)), .bool (scan (bs s) 0).2.isNone]) /\ w = w' := by
 go_enter Tryz.func110, Tryz.ntmps110; go_wp2_with fail; go_loop [4, 5] (fun m i => ∃ (k : Nat) (pre : List (Nat × Nat)), m = .int .i64 (pre.length : Nat) /\ i = .int .i64 k /\ k <= s.size /\ pre.length <= k /\ Rest (bs s) k pre) (fun _ i => s.size - (intOf i).toNat)
 case atStart => exact ⟨0, [], rfl, rfl, Nat.zero_le _, Nat.le_refl _, Rest.zero _⟩
 case round =>
  obtain ⟨k, pre, rfl, rfl, hk, hpl, hr⟩ := hrel; have HR := Lib.hid hr; clear hr
  by_cases h : k < s.size
  ·obtain ⟨c, n, h1⟩ : ∃ c n, oneN ((bs s).drop k) = (c, n) := ⟨_, _, rfl⟩
   have hle := (oneN_le ((bs s).drop k) (fun x hx => bs_lt x (List.mem_of_mem_drop hx))).1; have hF := first_any s k w hT hs; unfold firstPost at hF; rw [h1] at hF hle; simp only [List.length_drop, bs_length] at hle; have H1 := Lib.hid h1; clear h1
   by_cases hn : n = 0
   ·subst hn
    have h2 := Lib.hid (HR.out.bad (by rw [bs_length]; exact h) (by rw [H1.out]))
    go_wp2_with fail; refine hF.mono ?_; clear hF; rintro e w1 ⟨rfl, rfl⟩; go_wp2; go_ret2
    rw [h2.out]; exact ⟨rfl, rfl⟩
   ·have h2 := Lib.hid (HR.out.good (by rw [bs_length]; exact h) H1.out hn)
    have hb : ((n : Int) == 0) = false := by rw [beq_eq_false_iff_ne]; omega
    have hn1 : 1 <= n := by omega
    clear hn; go_wp2_with fail; refine hF.mono ?_; clear hF; rintro e w1 ⟨rfl, rfl⟩; go_wp2; go_round
    case rel => exact ⟨k + n, _, by simp, by go_num, by omega, by simp; omega, h2.out⟩
    case measure => simp [intOf]; omega
  ·have h2 := Lib.hid (HR.out.done (by rw [bs_length]; omega))
   go_wp2; go_ret2
   rw [h2.out]; exact ⟨rfl, rfl⟩
def strOf (l : List UInt8) : ByteArray := ⟨l.toArray⟩
theorem or_join (k m x : Nat) (hx : x < 2 ^ k) (hm : 2 ^ k * m < 256) (hx2 : x < 256) : bits .or .i64 ((2 ^ k * m : Nat) : Int) (x : Int) = ((2 ^ k * m + x : Nat) : Int) := by
 have := i64_or_nat (2 ^ k * m) x (by omega) (by omega)
 rw [<- Nat.two_pow_add_eq_or_of_lt hx m] at this; exact this
theorem or128 (x : Nat) (h : x < 64) : bits .or .i64 128 (x : Int) = ((128 + x : Nat) : Int) := or_join 6 2 x h (by decide) (by omega)
theorem or192 (x : Nat) (h : x < 64) : bits .or .i64 192 (x : Int) = ((192 + x : Nat) : Int) := or_join 6 3 x h (by decide) (by omega)
theorem or224 (x : Nat) (h : x < 32) : bits .or .i64 224 (x : Int) = ((224 + x : Nat) : Int) := or_join 5 7 x h (by decide) (by omega)
theorem or240 (x : Nat) (h : x < 16) : bits .or .i64 240 (x : Int) = ((240 + x : Nat) : Int) := or_join 4 15 x h (by decide) (by omega)
theorem tail_any (c : Nat) (w : World) (hc : c <= 1114111) : Calls Tryz.prog 227 #[.int .i64 c] w fun e w' => e = .returned (.int .u8 (128 + c % 64 : Nat)) /\ w = w' := by
 have m1 := and63 c (by omega)
 have m2 := or128 (c % 64) (by omega)
 push_cast at m1 m2; clear hc; go_enter Tryz.func227, Tryz.ntmps227; go_wp2; go_ret; exact ⟨ret_num (by simp), rfl⟩
theorem Tryz.underS : Tryz.prog.underlying 9 = some .string := by kernel_rfl
theorem conv_back (w : World) (l : List UInt8) (cs : Array Value) (n : Nat) (m : List UInt8) (hm : m = l) (h : cs = (l.map byteV).toArray) (hn : n = l.length) :
  (convert 67 9 (.slice (some ⟨w.heap.size, 0, none⟩) n n)).run Tryz.prog (w.alloc (.cells cs 5)) = .ok (.string (strOf m)) (w.alloc (.cells cs 5)) := by
 subst hm h hn; refine run_convert_bytes_back (P := Tryz.prog) _ _ _ 5 _ m.length m Tryz.underlying67 Tryz.underlying5 Tryz.underS fun j hj => ?_; rw [Addr.add_lit, World.cell?_alloc_new]; simp [hj]
theorem Put_any (c : Nat) (w : World) (h : isSc c = true) :
  Calls Tryz.prog 209 #[.int .i64 c] w fun e w' => e = .returned (.tuple #[.string (strOf (putU c)), .bool true]) /\ Below w.heap.size w w' := by
 have hS := isScalar_any (c : Int) w; rw [isScI_nat, h] at hS; rw [isSc_iff] at h; obtain ⟨h, -⟩ := h
 by_cases h1 : c < 128
 ·have hW := width_any c w
  rw [show wid c = 1 by simp [wid, h1]] at hW
  have hp : putU c = [UInt8.ofNat c] := by simp [putU, putN, h1]
  have hcv := conv_back w [UInt8.ofNat c] #[.int .u8 c] 1 (putU c) hp (by simp [byteV]; omega) rfl
  clear hp; go_enter Tryz.func209, Tryz.ntmps209; go_wp2_with fail; refine hS.mono ?_; rintro e w1 ⟨rfl, rfl⟩; go_wp2_with fail; refine hW.mono ?_; rintro e w1 ⟨rfl, rfl⟩; go_wp2; go_ret2
  exact ⟨rfl, (Below.refl _ _).alloc (Nat.le_refl _) _⟩
 ·by_cases h2 : c < 2048
  ·have hW := width_any c w
   rw [show wid c = 2 by simp [wid, h1, h2]] at hW
   have hp : putU c = [UInt8.ofNat (192 + c / 64), UInt8.ofNat (128 + c % 64)] := by simp [putU, putN, h1, h2]
   have m1 := or192 (c / 64) (by omega)
   push_cast at m1; have H := Lib.hid h; have hcv := conv_back w [UInt8.ofNat (192 + c / 64), UInt8.ofNat (128 + c % 64)] #[.int .u8 (192 + (c : Int) / 64), .int .u8 (128 + (c : Int) % 64)] 2 (putU c) hp (by simp [byteV]; omega) rfl
   have hb : c / 64 <= 31 := by omega
   clear hp h h1 h2; go_enter Tryz.func209, Tryz.ntmps209; go_wp2_with fail; refine hS.mono ?_; rintro e w1 ⟨rfl, rfl⟩; go_wp2_with fail; refine hW.mono ?_; rintro e w1 ⟨rfl, rfl⟩; go_wp2_with fail; refine (tail_any c w H.out).mono ?_; rintro e w1 ⟨rfl, rfl⟩; go_wp2; go_ret2
   exact ⟨rfl, (Below.refl _ _).alloc (Nat.le_refl _) _⟩
  ·by_cases h3 : c < 65536
   ·have hW := width_any c w
    rw [show wid c = 3 by simp [wid, h1, h2, h3]] at hW
    have hp : putU c = [UInt8.ofNat (224 + c / 4096), UInt8.ofNat (128 + c / 64 % 64), UInt8.ofNat (128 + c % 64)] := by simp [putU, putN, h1, h2, h3]
    have m1 := or224 (c / 4096) (by omega)
    push_cast at m1; have H := Lib.hid h; have H2 := Lib.hid (show c / 64 <= 1114111 by omega)
    have hcv := conv_back w [UInt8.ofNat (224 + c / 4096), UInt8.ofNat (128 + c / 64 % 64), UInt8.ofNat (128 + c % 64)] #[.int .u8 (224 + (c : Int) / 4096), .int .u8 (128 + (c : Int) / 64 % 64), .int .u8 (128 + (c : Int) % 64)] 3 (putU c) hp (by simp [byteV]; omega) rfl
    have hb : c / 4096 <= 15 := by omega
    clear hp h h1 h2 h3; go_enter Tryz.func209, Tryz.ntmps209; go_wp2_with fail; refine hS.mono ?_; rintro e w1 ⟨rfl, rfl⟩; go_wp2_with fail; refine hW.mono ?_; rintro e w1 ⟨rfl, rfl⟩; go_wp2_with fail; refine (tail_any (c / 64) w H2.out).mono ?_; rintro e w1 ⟨rfl, rfl⟩; go_wp2_with fail; refine (tail_any c w H.out).mono ?_; rintro e w1 ⟨rfl, rfl⟩; go_wp2; go_ret2
    exact ⟨rfl, (Below.refl _ _).alloc (Nat.le_refl _) _⟩
   ·have hW := width_any c w
    rw [show wid c = 4 by simp [wid, h1, h2, h3]] at hW
    have hp : putU c = [UInt8.ofNat (240 + c / 262144), UInt8.ofNat (128 + c / 4096 % 64), UInt8.ofNat (128 + c / 64 % 64), UInt8.ofNat (128 + c % 64)] := by simp [putU, putN, h1, h2, h3]
    have m1 : bits .or .i64 240 ((c : Int) / 262144) = 240 + (c : Int) / 262144 := by
     have := or240 (c / 262144) (by omega)
     rw [Int.natCast_add, Int.natCast_ediv] at this; exact this
    have H := Lib.hid h; have H2 := Lib.hid (show c / 64 <= 1114111 by omega)
    have H3 := Lib.hid (show c / 4096 <= 1114111 by omega)
    have hcv := conv_back w [UInt8.ofNat (240 + c / 262144), UInt8.ofNat (128 + c / 4096 % 64), UInt8.ofNat (128 + c / 64 % 64), UInt8.ofNat (128 + c % 64)] #[.int .u8 (240 + (c : Int) / 262144), .int .u8 (128 + (c : Int) / 4096 % 64), .int .u8 (128 + (c : Int) / 64 % 64), .int .u8 (128 + (c : Int) % 64)] 4 (putU c) hp (by simp [byteV]; omega) rfl
    have hb : c / 262144 <= 4 := by omega
    clear hp h h1 h2 h3; go_enter Tryz.func209, Tryz.ntmps209; go_wp2_with fail; refine hS.mono ?_; rintro e w1 ⟨rfl, rfl⟩; go_wp2_with fail; refine hW.mono ?_; rintro e w1 ⟨rfl, rfl⟩; go_wp2_with fail; refine (tail_any (c / 4096) w H3.out).mono ?_; rintro e w1 ⟨rfl, rfl⟩; go_wp2_with fail; refine (tail_any (c / 64) w H2.out).mono ?_; rintro e w1 ⟨rfl, rfl⟩; go_wp2_with fail; refine (tail_any c w H.out).mono ?_; rintro e w1 ⟨rfl, rfl⟩; go_wp2; go_ret2
    exact ⟨rfl, (Below.refl _ _).alloc (Nat.le_refl _) _⟩
theorem Put_none (c : Int) (w : World) (h : isScI c = false) :
  Calls Tryz.prog 209 #[.int .i64 c] w fun e w' => e = .returned (.tuple #[.string (strOf []), .bool false]) /\ w = w' := by
 have hS := isScalar_any c w; rw [h] at hS; go_enter Tryz.func209, Tryz.ntmps209; go_wp2_with fail; refine hS.mono ?_; rintro e w1 ⟨rfl, rfl⟩; go_wp2; go_ret2
 exact ⟨rfl, rfl⟩
abbrev failV (n : Int) : Value := .iface 176 (.agg #[.int .i64 n])
abbrev FailP (n : Int) : Ending := .panicked [{ v := failV n, recovered := false }]
theorem fail_any (n : Int) (w : World) : Calls Tryz.prog 156 #[.int .i64 n] w fun e w' => e = FailP n /\ w = w' := by
 go_enter Tryz.func156, Tryz.ntmps156; go_wp2; exact ⟨rfl, rfl, rfl⟩
def RdrAt (w : World) (g : Nat) (s : ByteArray) (k : Nat) (l : List UInt8) : Prop :=
 ∃ cs, Bld 180 g w g 2 cs l /\ cs.size = 4 /\ cs[0]? = some (.string s) /\ cs[1]? = some (.int .i64 (k : Int))
theorem in4 : BldIn 180 4 2 := ⟨by decide, by kernel_rfl, by decide⟩
theorem RdrAt.drewN {w : World} {g : Nat} {s : ByteArray} {k : Nat} {l : List UInt8} (h : RdrAt w g s k l) (n : Nat) : RdrAt (w.drewN n) g s k l := by
 obtain ⟨cs, ⟨h1, h2, v, h3, h4⟩, h5⟩ := h; exact ⟨cs, ⟨h1.drewN n, h2, v, h3, h4.drewN n⟩, h5⟩
theorem RdrAt.lt {w : World} {g : Nat} {s : ByteArray} {k : Nat} {l : List UInt8} (h : RdrAt w g s k l) : g < w.heap.size := by
 obtain ⟨cs, h1, _⟩ := h; exact h1.cells.lt
theorem RdrAt.moved {w : World} {g : Nat} {s : ByteArray} {k : Nat} {l : List UInt8} (h : RdrAt w g s k l) (k' : Nat) : RdrAt (w.setCell ⟨g, 1, none⟩ (.int .i64 (k' : Int))) g s k' l := by
 obtain ⟨cs, ⟨h1, h2, v, h3, h4⟩, h5, h6, h7⟩ := h; refine ⟨cs.set 1 (.int .i64 (k' : Int)) (by omega), ⟨h1.set 1 (by omega) _, ?_, v, ?_, h4.setOther _ _ (own_ne_box h4 h1 (by decide))⟩, by simpa using h5, ?_, by simp⟩
 ·rwa [Array.getElem?_set_ne (by omega) (by omega)]
 ·rwa [Array.getElem?_set_ne (by omega) (by omega)]
 ·rwa [Array.getElem?_set_ne (by omega) (by omega)]
theorem below_moved {w : World} (g : Nat) (v : Value) : Below g w (w.setCell ⟨g, 1, none⟩ v) := (Below.refl g w).setCell (p := ⟨g, 1, none⟩) (Nat.le_refl _) v
def OkR (g : Nat) (s : ByteArray) (w : World) (v : Value) (k' : Nat) (l' : List UInt8) (e : Ending) (w' : World) : Prop :=
 e = .returned v /\ RdrAt w' g s k' l' /\ Below g w w' /\ Beside 5 g w w'
def BadR (g : Nat) (w : World) (n : Int) (e : Ending) (w' : World) : Prop := e = FailP n /\ Below g w w'
theorem Beside.drewN {E : TypeId} {g : Nat} {w w' : World} (h : Beside E g w w') (n : Nat) : Beside E g w (w'.drewN n) := h
theorem Below.drewN' {B : Nat} {w w' : World} (h : Below B w w') (n : Nat) : Below B w (w'.drewN n) := h.trans (below_draws B w' n)
theorem rnext_end (w : World) (g : Nat) (s : ByteArray) (k : Nat) (l : List UInt8) (h : RdrAt w g s k l) (hk : k = s.size) (hs : s.size <= 1048576) :
  Calls Tryz.prog 155 #[.pointer (some ⟨g, 0, none⟩)] w (BadR g w 2) := by
 obtain ⟨cs, hb, h5, h6, h7⟩ := h; have c0 := hb.cells.cell 0 _ h6; have c1 := hb.cells.cell 1 _ h7; have hd : decide (s.size <= k) = true := by simp; omega
 clear hk hb h5 h6 h7; go_enter Tryz.func155, Tryz.ntmps155; go_wp2_with fail; go_quiet (fail)
 go_wp2_with fail; refine (fail_any 2 _).mono ?_; rintro e w1 ⟨rfl, rfl⟩; go_wp2; exact ⟨rfl, rfl, Below.drewN' (Below.refl g w) _⟩
theorem rnext_any (w : World) (g : Nat) (s : ByteArray) (k : Nat) (l : List UInt8) (h : RdrAt w g s k l) (hk : k < s.size) (hs : s.size <= 1048576) :
  Calls Tryz.prog 155 #[.pointer (some ⟨g, 0, none⟩)] w (OkR g s w (.int .u8 ((s[k]'hk).toNat : Nat)) (k + 1) l) := by
 obtain ⟨cs, hb, h5, h6, h7⟩ := id h; have c0 := hb.cells.cell 0 _ h6; have c1 := hb.cells.cell 1 _ h7; have f1 := hb.cells.frozen 1; have hd : decide (s.size <= k) = false := by simp; omega
 have hlt := hb.cells.lt; clear hb h5 h6 h7; go_enter Tryz.func155, Tryz.ntmps155; go_wp2_with fail; go_quiet (fail)
 go_wp2_with fail; go_quiet (fail)
 go_wp2; go_ret; exact ⟨rfl, ((h.drewN _).moved (k + 1)).drewN _, Below.drewN' ((Below.drewN' (Below.refl g w) _).setCell (p := ⟨g, 1, none⟩) (Nat.le_refl _) _) _, ((Beside.refl.drewN _).setCell 1 _).drewN _⟩
theorem drop_nil_iff {s : ByteArray} {k : Nat} (hk : k <= s.size) (h : (bs s).drop k = []) : k = s.size := by
 have := congrArg List.length h; simp [bs_length] at this; omega
theorem rnext_nil (w : World) (g : Nat) (s : ByteArray) (k : Nat) (l : List UInt8) (h : RdrAt w g s k l) (hk : k <= s.size) (hr : (bs s).drop k = []) (hs : s.size <= 1048576) :
  Calls Tryz.prog 155 #[.pointer (some ⟨g, 0, none⟩)] w (BadR g w 2) := rnext_end w g s k l h (drop_nil_iff hk hr) hs
theorem rnext_cons (w : World) (g : Nat) (s : ByteArray) (k : Nat) (l : List UInt8) {c : Nat} {r : List Nat} (h : RdrAt w g s k l) (hr : (bs s).drop k = c :: r) (hs : s.size <= 1048576) :
  Calls Tryz.prog 155 #[.pointer (some ⟨g, 0, none⟩)] w (OkR g s w (.int .u8 (c : Int)) (k + 1) l) := by
 obtain ⟨hk, he⟩ := bs_at hr (j := 0) (by simp)
 have hk' : k < s.size := hk; have e : (s[k]'hk').toNat = c := he; have := rnext_any w g s k l h hk' hs
 rwa [e] at this
theorem drop_cons {l r : List Nat} {k c : Nat} (h : l.drop k = c :: r) : l.drop (k + 1) = r /\ k < l.length := by
 refine ⟨?_, ?_⟩
 ·rw [<- List.drop_drop, h]; rfl
 ·have := congrArg List.length h; simp at this; omega
theorem or16 (a b : Nat) (h : a < 16777216) (hb : b < 16) : bits .or .i64 ((a : Int) * 16) (b : Int) = ((a * 16 + b : Nat) : Int) := by
 have := i64_or_nat (a * 16) b (by omega) (by omega)
 push_cast at this; rw [this, show a * 16 = 2 ^ 4 * a by omega, <- Nat.two_pow_add_eq_or_of_lt (by omega : b < 2 ^ 4)]
def FourP (g : Nat) (s : ByteArray) (w : World) (k : Nat) (l : List UInt8) (r : List Nat) (e : Ending) (w' : World) : Prop :=
 ((unitQ r).2 = 0 /\ OkR g s w (.int .i64 ((unitQ r).1 : Nat)) (k + 4) l e w') \/ ((unitQ r).2 ≠ 0 /\ BadR g w ((unitQ r).2 : Nat) e w')
theorem lim4 {j m : Nat} (hj : j < 4) (hm : m < 16 ^ j) : m < 4096 /\ ∀ d, d < 16 -> m * 16 + d < 16 ^ (j + 1) := by
 have : j = 0 \/ j = 1 \/ j = 2 \/ j = 3 := by omega
 rcases this with rfl | rfl | rfl | rfl <;> simp at hm ⊢ <;> refine ⟨by omega, fun d hd => by omega⟩
theorem four_any (w : World) (g : Nat) (s : ByteArray) (k : Nat) (l : List UInt8) (h : RdrAt w g s k l) (hk : k <= s.size) (hs : s.size <= 1048576) :
  Calls Tryz.prog 226 #[.pointer (some ⟨g, 0, none⟩)] w (FourP g s w k l ((bs s).drop k)) := by
 go_enter Tryz.func226, Tryz.ntmps226; go_wp2_with fail; go_loopw [3, 5] (fun n i wr => ∃ (j m : Nat), j <= 4 /\ n = .int .i64 m /\ i = .int .i64 j /\ m < 16 ^ j /\ RdrAt wr g s (k + j) l /\ k + j <= s.size /\ Below g w wr /\ Beside 5 g w wr /\ unitF (4 - j) m ((bs s).drop (k + j)) = unitQ ((bs s).drop k)) (fun _ i _ => 4 - (intOf i).toNat)
 case atStart => exact ⟨0, 0, by omega, rfl, rfl, by simp, h, hk, Below.refl _ _, Beside.refl, rfl⟩
 case round =>
  obtain ⟨j, m, hj, rfl, rfl, hm, hR, hkj, hb, hB, hu⟩ := hrel
  by_cases hj4 : j < 4
  ·obtain ⟨hm1, hm2⟩ := lim4 hj4 hm
   obtain ⟨i, hi⟩ : ∃ i, 4 - j = i + 1 := ⟨3 - j, by omega⟩
   rw [hi] at hu
   cases hr : (bs s).drop (k + j) with
   | nil =>
    rw [hr, unitF] at hu; have HU := Lib.hid hu; have hN := rnext_nil wr g s (k + j) l hR hkj hr hs; clear hu hr hi hm2 hm; go_wp2_with fail; refine hN.mono ?_; rintro e w1 ⟨rfl, hb1⟩; go_wp2; exact ⟨rfl, .inr ⟨by rw [<- HU.out]; simp, by rw [<- HU.out]; rfl, hb.trans hb1⟩⟩
   | cons c r =>
    obtain ⟨hd1, hd2⟩ := drop_cons hr; rw [bs_length] at hd2; have HR := Lib.hid (show (bs s).drop (k + (j + 1)) = r from hd1); have hc : c < 256 := bs_lt c (List.mem_of_mem_drop (by rw [hr]; simp))
    have hN := rnext_cons wr g s (k + j) l hR hr hs; rw [hr] at hu; simp only [unitF] at hu; clear hd1
    by_cases h1 : 48 <= c /\ c <= 57
    ·obtain ⟨x, hx⟩ : ∃ x, x = m * 16 + (c - 48) := ⟨_, rfl⟩
     have ho : bits .or .i64 ((m : Int) * 16) ((c : Int) - 48) = (x : Int) := by
      have := or16 m (c - 48) (by omega) (by omega)
      rw [show (((c - 48 : Nat)) : Int) = (c : Int) - 48 by omega] at this
      rw [this, hx]
     have hx2 : x < 16 ^ (j + 1) := by rw [hx]; exact hm2 _ (by omega)
     rw [show hexV c = some (c - 48) by unfold hexV; rw [if_pos h1]] at hu
     simp only [<- hx] at hu; have HU := Lib.hid hu; have HX2 := Lib.hid hx2; clear hu hr hm2 hm hx2 hx; have HI := Lib.hid hi; clear hi; go_wp2_with fail; refine hN.mono ?_; clear hN; rintro e w1 ⟨rfl, hR1, hb1, hB1⟩; go_wp2; go_roundw
     case rel => exact ⟨j + 1, x, by omega, rfl, by go_num, HX2.out, hR1, by omega, hb.trans hb1, hB.trans hB1, by rw [show 4 - (j + 1) = i by have := HI.out; omega, HR.out]; exact HU.out⟩
     case measure => simp [intOf]; omega
    by_cases h2 : 97 <= c /\ c <= 102
    ·obtain ⟨x, hx⟩ : ∃ x, x = m * 16 + (c - 87) := ⟨_, rfl⟩
     have ho : bits .or .i64 ((m : Int) * 16) ((c : Int) - 97 + 10) = (x : Int) := by
      have := or16 m (c - 87) (by omega) (by omega)
      rw [show (((c - 87 : Nat)) : Int) = (c : Int) - 97 + 10 by omega] at this
      rw [this, hx]
     have hx2 : x < 16 ^ (j + 1) := by rw [hx]; exact hm2 _ (by omega)
     rw [show hexV c = some (c - 87) by unfold hexV; rw [if_neg h1, if_pos h2]] at hu
     simp only [<- hx] at hu; have HU := Lib.hid hu; have HX2 := Lib.hid hx2; clear hu hr hm2 hm hx2 hx; have HI := Lib.hid hi; clear hi; go_wp2_with fail; refine hN.mono ?_; clear hN; rintro e w1 ⟨rfl, hR1, hb1, hB1⟩; go_wp2; go_roundw
     case rel => exact ⟨j + 1, x, by omega, rfl, by go_num, HX2.out, hR1, by omega, hb.trans hb1, hB.trans hB1, by rw [show 4 - (j + 1) = i by have := HI.out; omega, HR.out]; exact HU.out⟩
     case measure => simp [intOf]; omega
    by_cases h3 : 65 <= c /\ c <= 70
    ·obtain ⟨x, hx⟩ : ∃ x, x = m * 16 + (c - 55) := ⟨_, rfl⟩
     have ho : bits .or .i64 ((m : Int) * 16) ((c : Int) - 65 + 10) = (x : Int) := by
      have := or16 m (c - 55) (by omega) (by omega)
      rw [show (((c - 55 : Nat)) : Int) = (c : Int) - 65 + 10 by omega] at this
      rw [this, hx]
     have hx2 : x < 16 ^ (j + 1) := by rw [hx]; exact hm2 _ (by omega)
     rw [show hexV c = some (c - 55) by unfold hexV; rw [if_neg h1, if_neg h2, if_pos h3]] at hu
     simp only [<- hx] at hu; have HU := Lib.hid hu; have HX2 := Lib.hid hx2; clear hu hr hm2 hm hx2 hx; have HI := Lib.hid hi; clear hi; go_wp2_with fail; refine hN.mono ?_; clear hN; rintro e w1 ⟨rfl, hR1, hb1, hB1⟩; go_wp2; go_roundw
     case rel => exact ⟨j + 1, x, by omega, rfl, by go_num, HX2.out, hR1, by omega, hb.trans hb1, hB.trans hB1, by rw [show 4 - (j + 1) = i by have := HI.out; omega, HR.out]; exact HU.out⟩
     case measure => simp [intOf]; omega
    ·rw [show hexV c = none by unfold hexV; rw [if_neg h1, if_neg h2, if_neg h3]] at hu
     have HU := Lib.hid hu; clear hu hr hm2 hm hi; have h4 : c < 48 \/ (58 <= c /\ c <= 64) \/ (71 <= c /\ c <= 96) \/ 103 <= c := by omega
     clear h1 h2 h3; rcases h4 with h4 | h4 | h4 | h4
     all_goals
      go_wp2_with fail; refine hN.mono ?_; rintro e w1 ⟨rfl, hR1, hb1, hB1⟩; go_wp2_with fail; refine (fail_any 3 _).mono ?_; rintro e w2 ⟨rfl, rfl⟩; go_wp2; exact ⟨rfl, .inr ⟨by rw [<- HU.out]; simp, by rw [<- HU.out]; rfl, hb.trans hb1⟩⟩
  ·obtain rfl : j = 4 := by omega
   simp only [Nat.sub_self, unitF] at hu; have HU := Lib.hid hu; clear hu hm; go_wp2; go_ret; exact .inl ⟨by rw [<- HU.out], by rw [<- HU.out]; rfl, hR, hb, hB⟩
def un (l : List Nat) : List UInt8 := l.map UInt8.ofNat
theorem un_append (a b : List Nat) : un (a ++ b) = un a ++ un b := by simp [un]
theorem RdrAt.wrote {w : World} {g : Nat} {s : ByteArray} {k : Nat} {l' : List UInt8} {w' : World} {cs : Array Value} (h5 : cs.size = 4) (h6 : cs[0]? = some (.string s)) (h7 : cs[1]? = some (.int .i64 (k : Int)))
  (h : ∃ cs', Bld 180 g w' g 2 cs' l' /\ Used g 2 cs cs' /\ Below g w w' /\ Beside 5 g w w') : RdrAt w' g s k l' /\ Below g w w' /\ Beside 5 g w w' := by
 obtain ⟨cs', hb, ⟨h1, h2, h3⟩, h8, h9⟩ := h; exact ⟨⟨cs', hb, by rw [h1, h5], by rw [h2 0 (by omega) (by omega)]; exact h6, by rw [h2 1 (by omega) (by omega)]; exact h7⟩, h8, h9⟩
theorem rWB (w : World) (g : Nat) (s : ByteArray) (k : Nat) (l : List UInt8) (c : Nat) (n : Int) (hn : n = (c : Int)) (hc : c < 256) (h : RdrAt w g s k l) (hl : l.length <= 100000000) :
  Calls Tryz.prog 183 #[.pointer (some ⟨g, 2, none⟩), .int .u8 n] w fun e w' => e = .returned .nilIface /\ RdrAt w' g s k (l ++ un [c]) /\ Below g w w' /\ Beside 5 g w w' := by
 obtain ⟨cs, hb, h5, h6, h7⟩ := h; refine (WriteByte_any w (UInt8.ofNat c) n (by rw [hn, UInt8.toNat_ofNat']; omega) hb (by rw [h5]; exact in4) (Nat.le_refl _) (by omega)).mono ?_
 rintro e w' ⟨rfl, hh⟩; exact ⟨rfl, RdrAt.wrote h5 h6 h7 hh⟩
theorem rWS (w : World) (g : Nat) (s : ByteArray) (k : Nat) (l : List UInt8) (x : ByteArray) (h : RdrAt w g s k l) (hl : l.length + x.size <= 100000000) :
  Calls Tryz.prog 113 #[.pointer (some ⟨g, 2, none⟩), .string x] w fun e w' => e = .returned (.tuple #[.int .i64 x.size, .nilIface]) /\ RdrAt w' g s k (l ++ x.data.toList) /\ Below g w w' /\ Beside 5 g w w' := by
 obtain ⟨cs, hb, h5, h6, h7⟩ := h; refine (WriteString_any w x hb (by rw [h5]; exact in4) (Nat.le_refl _) (by omega)).mono ?_
 rintro e w' ⟨rfl, hh⟩; exact ⟨rfl, RdrAt.wrote h5 h6 h7 hh⟩
def PartP (g : Nat) (s : ByteArray) (w : World) (v : Value) (k0 : Nat) (l : List UInt8) (q : PartR) (e : Ending) (w' : World) : Prop :=
 (q.2.2 = 0 /\ OkR g s w v (k0 + q.2.1) (l ++ un q.1) e w') \/ (q.2.2 ≠ 0 /\ BadR g w (q.2.2 : Nat) e w')
theorem strOf_size (l : List UInt8) : (strOf l).size = l.length := by simp [strOf, ByteArray.size]
theorem Beside.of_below {E : TypeId} {g : Nat} {w w' : World} (h : Below w.heap.size w w') : Beside E g w w' :=
 ⟨h.size, fun k o _ ho _ => (h.block k (Array.getElem?_eq_some_iff.1 ho).1).trans ho⟩
theorem RdrAt.below {w w' : World} {g : Nat} {s : ByteArray} {k : Nat} {l : List UInt8} (h : RdrAt w g s k l) (hb : Below w.heap.size w w') : RdrAt w' g s k l := by
 obtain ⟨cs, ⟨h1, h2, v, h3, h4⟩, h5⟩ := h; exact ⟨cs, ⟨h1.below hb h1.lt, h2, v, h3, h4.below hb (Nat.le_refl _)⟩, h5⟩
theorem number_any (w : World) (g : Nat) (s : ByteArray) (k : Nat) (l : List UInt8) (h : RdrAt w g s (k + 2) l) (hk : k + 2 <= s.size) (hs : s.size <= 1048576) (hl : l.length <= 9000000) :
  Calls Tryz.prog 208 #[.pointer (some ⟨g, 0, none⟩)] w (PartP g s w (.tuple #[]) k l (codedQ ((bs s).drop (k + 2)))) := by
 have h4 := four_any w g s (k + 2) l h hk hs; have hbase : g <= w.heap.size := Nat.le_of_lt h.lt; obtain ⟨r, hr⟩ : ∃ r, r = (bs s).drop (k + 2) := ⟨_, rfl⟩; rw [<- hr] at h4 ⊢
 by_cases hu : (unitQ r).2 = 0
 ·obtain ⟨hv1, hv2⟩ := unitQ_val hu
  obtain ⟨n, hn⟩ : ∃ n, n = (unitQ r).1 := ⟨_, rfl⟩; have hlen : k + 6 <= s.size := by rw [hr] at hv1; simp [bs_length] at hv1; omega
  rw [<- hn] at hv2
  have h4' : Calls Tryz.prog 226 #[.pointer (some ⟨g, 0, none⟩)] w (OkR g s w (.int .i64 (n : Int)) (k + 2 + 4) l) := h4.mono fun e w' h => by
   rcases h with ⟨_, h⟩ | ⟨h, _⟩
   ·rwa [hn]
   ·exact absurd hu h
  by_cases h1 : 56320 <= n /\ n <= 57343
  ·have HC : Hid (codedQ r = errR 3) := Lib.hid (by unfold codedQ; rw [if_neg (by simp [hu]), if_pos (by rw [<- hn]; exact h1)])
   clear h4 hu hn hr hv1; go_enter Tryz.func208, Tryz.ntmps208; go_wp2_with fail; refine h4'.mono ?_; rintro e w1 ⟨rfl, hR1, hb1, hB1⟩; go_wp2_with fail; refine (fail_any 3 _).mono ?_; rintro e w2 ⟨rfl, rfl⟩; go_wp2; exact ⟨rfl, .inr ⟨by rw [HC.out]; simp [errR], by rw [HC.out]; rfl, hb1⟩⟩
  ·by_cases h2 : n < 55296 \/ 57343 < n
   ·have HC : Hid (codedQ r = (putN n, 6, 0)) := Lib.hid (by unfold codedQ; rw [if_neg (by simp [hu]), if_neg (by rw [<- hn]; exact h1), if_pos (by rw [<- hn]; exact h2), <- hn])
    have hP := fun W => Put_any n W (by rw [isSc_iff]; omega)
    have hsz : (strOf (putU n)).size <= 4 := by rw [strOf_size, putU_length]; exact (wid_pos n).2
    clear h4 hu hn hr hv1; rcases h2 with h2 | h2
    all_goals
     go_enter Tryz.func208, Tryz.ntmps208; go_wp2_with fail; refine h4'.mono ?_; rintro e w1 ⟨rfl, hR1, hb1, hB1⟩; go_wp2_with fail; refine (hP _).mono ?_; rintro e w2 ⟨rfl, hb2⟩; have hR2 := hR1.below hb2; have hz2 := hb2.size; have hlt2 := hR1.lt; go_wp2_with fail; refine (rWS w2 g s _ l _ hR2 (by omega)).mono ?_
     rintro e w3 ⟨rfl, hR3, hb3, hB3⟩; go_wp2; go_end0
     exact .inl ⟨by rw [HC.out], by rw [HC.out]; exact ⟨rfl, hR3, (hb1.trans (hb2.mono (by omega))).trans hb3, (hB1.trans (Beside.of_below hb2)).trans hB3⟩⟩
   ·have HC0 : Hid (codedQ r = lowQ n (r.drop 4)) := Lib.hid (by unfold codedQ; rw [if_neg (by simp [hu]), if_neg (by rw [<- hn]; exact h1), if_neg (by rw [<- hn]; exact h2), <- hn])
    have hr4 : r.drop 4 = (bs s).drop (k + 6) := by rw [hr, List.drop_drop]
    have hn3 : 55296 <= n /\ n <= 56319 := by omega
    have b1 : decide ((56320 : Int) <= (n : Int)) = false := by simp; omega
    have b2 : decide ((55296 : Int) <= (n : Int)) = true := by simp; omega
    have b3 : decide ((n : Int) <= 56319) = true := by simp; omega
    have HN3 := Lib.hid hn3; clear h4 hu hn hv1 h1 h2 hv2; have HR := Lib.hid hr; clear hr hn3
    cases hq : (bs s).drop (k + 6) with
    | nil =>
     have HC : Hid (codedQ r = errR 2) := Lib.hid (by rw [HC0.out, hr4, hq]; rfl)
     have hN := fun W h => rnext_nil W g s (k + 2 + 4) l h (by omega) hq hs
     clear hq hr4; go_enter Tryz.func208, Tryz.ntmps208; go_wp2_with fail; refine h4'.mono ?_; rintro e w1 ⟨rfl, hR1, hb1, hB1⟩; go_wp2_with fail; refine (hN _ hR1).mono ?_; rintro e w2 ⟨rfl, hb2⟩; go_wp2; exact ⟨rfl, .inr ⟨by rw [HC.out]; simp [errR], by rw [HC.out]; rfl, hb1.trans hb2⟩⟩
    | cons c t =>
     have hN := fun W h => rnext_cons W g s (k + 2 + 4) l h hq hs; have hc : c < 256 := bs_lt c (List.mem_of_mem_drop (by rw [hq]; simp))
     by_cases hc92 : c = 92
     ·subst hc92
      obtain ⟨hd, hd2⟩ := drop_cons hq; rw [bs_length] at hd2; have hrt : r.drop 4 = 92 :: t := by rw [hr4, hq]
      cases ht : t with
      | nil =>
       have HC : Hid (codedQ r = errR 2) := Lib.hid (by rw [HC0.out, hrt, ht]; rfl)
       have hN2 := fun W h => rnext_nil W g s (k + 2 + 4 + 1) l h (by omega) (by rw [<- ht]; exact hd) hs
       clear hq hr4 hrt ht hd; go_enter Tryz.func208, Tryz.ntmps208; go_wp2_with fail; refine h4'.mono ?_; rintro e w1 ⟨rfl, hR1, hb1, hB1⟩; go_wp2_with fail; refine (hN _ hR1).mono ?_; rintro e w2 ⟨rfl, hR2, hb2, hB2⟩; go_wp2_with fail; refine (hN2 _ hR2).mono ?_; rintro e w3 ⟨rfl, hb3⟩; go_wp2; exact ⟨rfl, .inr ⟨by rw [HC.out]; simp [errR], by rw [HC.out]; rfl, (hb1.trans hb2).trans hb3⟩⟩
      | cons d u =>
       subst ht; have hN2 := fun W h => rnext_cons W g s (k + 2 + 4 + 1) l h hd hs; have hdl : d < 256 := bs_lt d (List.mem_of_mem_drop (by rw [hd]; simp))
       obtain ⟨he, he2⟩ := drop_cons hd; rw [bs_length] at he2
       by_cases hd117 : d = 117
       ·subst hd117
        have hF := fun W h => four_any W g s (k + 2 + 4 + 1 + 1) l h (by omega) hs
        rw [show (bs s).drop (k + 2 + 4 + 1 + 1) = u from he] at hF; clear hq hr4 he hd
        by_cases hm : (unitQ u).2 = 0
        ·obtain ⟨hv3, hv4⟩ := unitQ_val hm
         obtain ⟨m, hmm⟩ : ∃ m, m = (unitQ u).1 := ⟨_, rfl⟩
         have hF' : ∀ W, RdrAt W g s (k + 2 + 4 + 1 + 1) l -> Calls Tryz.prog 226 #[.pointer (some ⟨g, 0, none⟩)] W (OkR g s W (.int .i64 (m : Int)) (k + 2 + 4 + 1 + 1 + 4) l) := fun W h => (hF W h).mono fun e w' h => by
          rcases h with ⟨_, h⟩ | ⟨h, _⟩
          ·rwa [hmm]
          ·exact absurd hm h
         rw [<- hmm] at hv4; clear hF
         by_cases hlow : m < 56320 \/ 57343 < m
         ·have HC : Hid (codedQ r = errR 3) := Lib.hid (by rw [HC0.out, hrt]; simp only [lowQ]; rw [if_neg (by simp), if_neg (by simp), if_neg (by simp [hm]), if_pos (by rw [<- hmm]; exact hlow)])
          clear hrt hm hmm; have HLOW := Lib.hid hlow; clear hlow hv4
          ·go_enter Tryz.func208, Tryz.ntmps208
           go_wp2_with fail; refine h4'.mono ?_; rintro e w1 ⟨rfl, hR1, hb1, hB1⟩; go_wp2_with fail; refine (hN _ hR1).mono ?_; rintro e w2 ⟨rfl, hR2, hb2, hB2⟩; go_wp2_with fail; refine (hN2 _ hR2).mono ?_; rintro e w3 ⟨rfl, hR3, hb3, hB3⟩; go_wp2_with fail; refine (hF' _ hR3).mono ?_; rintro e w4 ⟨rfl, hR4, hb4, hB4⟩
           have hlow2 : (decide ((m : Int) < 56320) = true) \/ (decide ((m : Int) < 56320) = false /\ decide ((57343 : Int) < (m : Int)) = true) := by
            rcases HLOW.out with hlow | hlow
            ·exact .inl (by simp; omega)
            ·exact .inr ⟨by simp; omega, by simp; omega⟩
           rcases hlow2 with hlow | ⟨hlow, hlow3⟩
           all_goals
            go_wp2_with fail; refine (fail_any 3 _).mono ?_; rintro e w5 ⟨rfl, rfl⟩; go_wp2; exact ⟨rfl, .inr ⟨by rw [HC.out]; simp [errR], by rw [HC.out]; rfl, ((hb1.trans hb2).trans hb3).trans hb4⟩⟩
         ·obtain ⟨x, hx⟩ : ∃ x, x = 65536 + (n - 55296) * 1024 + (m - 56320) := ⟨_, rfl⟩
          have HC : Hid (codedQ r = (putN x, 12, 0)) := Lib.hid (by rw [HC0.out, hrt]; simp only [lowQ]; rw [if_neg (by simp), if_neg (by simp), if_neg (by simp [hm]), if_neg (by rw [<- hmm]; exact hlow), hx, hmm])
          have hP := fun W => Put_any x W (by have := HN3.out; rw [isSc_iff]; omega)
          have hsz : (strOf (putU x)).size <= 4 := by rw [strOf_size, putU_length]; exact (wid_pos x).2
          have hlow' : 56320 <= m /\ m <= 57343 := by omega
          have HLOW := Lib.hid hlow'; have hn3 := HN3.out; have E1 := Lib.hid (And.intro (show (0 : Int) <= (n : Int) - 55296 /\ (n : Int) - 55296 <= 1023 by omega) (And.intro (show (0 : Int) <= (m : Int) - 56320 /\ (m : Int) - 56320 <= 1023 by omega) (show (65536 : Int) + 1024 * ((n : Int) - 55296) + ((m : Int) - 56320) = (x : Int) by omega)))
          clear hrt hm hmm hx hlow hlow' hv4 hn3; go_enter Tryz.func208, Tryz.ntmps208; go_wp2_with fail; refine h4'.mono ?_; rintro e w1 ⟨rfl, hR1, hb1, hB1⟩; go_wp2_with fail; refine (hN _ hR1).mono ?_; rintro e w20 ⟨rfl, hR20, hb20, hB20⟩; go_wp2_with fail; refine (hN2 _ hR20).mono ?_; rintro e w30 ⟨rfl, hR30, hb30, hB30⟩; go_wp2_with fail; refine (hF' _ hR30).mono ?_; rintro e w40 ⟨rfl, hR40, hb40, hB40⟩; have hd3 : decide ((m : Int) < 56320) = false := by have := HLOW.out; simp; omega
          have hd4 : decide ((57343 : Int) < (m : Int)) = false := by have := HLOW.out; simp; omega
          obtain ⟨e1, e2, hxi⟩ := E1.out; go_wp2_with fail; refine (hP _).mono ?_; rintro e w2 ⟨rfl, hb2⟩; have hR2 := hR40.below hb2; have hz2 := hb2.size; have hlt2 := hR40.lt; go_wp2_with fail; refine (rWS w2 g s _ l _ hR2 (by omega)).mono ?_
          rintro e w3 ⟨rfl, hR3, hb3, hB3⟩; go_wp2; go_end0
          exact .inl ⟨by rw [HC.out], by rw [HC.out]; exact ⟨rfl, hR3, ((((hb1.trans hb20).trans hb30).trans hb40).trans (hb2.mono (by omega))).trans hb3, ((((hB1.trans hB20).trans hB30).trans hB40).trans (Beside.of_below hb2)).trans hB3⟩⟩
        ·have HC : Hid (codedQ r = errR (unitQ u).2) := Lib.hid (by rw [HC0.out, hrt]; simp only [lowQ]; rw [if_neg (by simp), if_neg (by simp), if_pos (by simpa using hm)])
         have hF' : ∀ W, RdrAt W g s (k + 2 + 4 + 1 + 1) l -> Calls Tryz.prog 226 #[.pointer (some ⟨g, 0, none⟩)] W (BadR g W ((unitQ u).2 : Nat)) := fun W h => (hF W h).mono fun e w' h => by
          rcases h with ⟨h, _⟩ | ⟨_, h⟩
          ·exact absurd h hm
          ·exact h
         clear hF hrt; go_enter Tryz.func208, Tryz.ntmps208; go_wp2_with fail; refine h4'.mono ?_; rintro e w1 ⟨rfl, hR1, hb1, hB1⟩; go_wp2_with fail; refine (hN _ hR1).mono ?_; rintro e w2 ⟨rfl, hR2, hb2, hB2⟩; go_wp2_with fail; refine (hN2 _ hR2).mono ?_; rintro e w3 ⟨rfl, hR3, hb3, hB3⟩; go_wp2_with fail; refine (hF' _ hR3).mono ?_; rintro e w4 ⟨rfl, hb4⟩; go_wp2; exact ⟨rfl, .inr ⟨by rw [HC.out]; exact hm, by rw [HC.out]; rfl, ((hb1.trans hb2).trans hb3).trans hb4⟩⟩
       ·have HC : Hid (codedQ r = errR 3) := Lib.hid (by rw [HC0.out, hrt]; simp only [lowQ]; rw [if_neg (by simp), if_pos (by simpa using hd117)])
        have hbd : ((d : Int) != 117) = true := by rw [bne_iff_ne]; omega
        clear hq hr4 hrt hd he hd117; go_enter Tryz.func208, Tryz.ntmps208; go_wp2_with fail; refine h4'.mono ?_; rintro e w1 ⟨rfl, hR1, hb1, hB1⟩; go_wp2_with fail; refine (hN _ hR1).mono ?_; rintro e w2 ⟨rfl, hR2, hb2, hB2⟩; go_wp2_with fail; refine (hN2 _ hR2).mono ?_; rintro e w3 ⟨rfl, hR3, hb3, hB3⟩; go_wp2_with fail; refine (fail_any 3 _).mono ?_; rintro e w4 ⟨rfl, rfl⟩; go_wp2; exact ⟨rfl, .inr ⟨by rw [HC.out]; simp [errR], by rw [HC.out]; rfl, (hb1.trans hb2).trans hb3⟩⟩
     ·have HC : Hid (codedQ r = errR 3) := Lib.hid (by rw [HC0.out, hr4, hq]; simp only [lowQ]; rw [if_pos (by simpa using hc92)])
      have hbc : ((c : Int) != 92) = true := by rw [bne_iff_ne]; omega
      clear hq hr4 hc92; go_enter Tryz.func208, Tryz.ntmps208; go_wp2_with fail; refine h4'.mono ?_; rintro e w1 ⟨rfl, hR1, hb1, hB1⟩; go_wp2_with fail; refine (hN _ hR1).mono ?_; rintro e w2 ⟨rfl, hR2, hb2, hB2⟩; go_wp2_with fail; refine (fail_any 3 _).mono ?_; rintro e w3 ⟨rfl, rfl⟩; go_wp2; exact ⟨rfl, .inr ⟨by rw [HC.out]; simp [errR], by rw [HC.out]; rfl, hb1.trans hb2⟩⟩
 ·have h4' : Calls Tryz.prog 226 #[.pointer (some ⟨g, 0, none⟩)] w (BadR g w ((unitQ r).2 : Nat)) := h4.mono fun e w' h => by
   rcases h with ⟨h, _⟩ | ⟨_, h⟩
   ·exact absurd h hu
   ·exact h
  have HC : Hid (codedQ r = errR (unitQ r).2) := Lib.hid (by unfold codedQ; rw [if_pos (by simpa using hu)])
  clear h4; have HR := Lib.hid hr; clear hr; go_enter Tryz.func208, Tryz.ntmps208; go_wp2_with fail; refine h4'.mono ?_; rintro e w1 ⟨rfl, hb1⟩; go_wp2; exact ⟨rfl, .inr ⟨by rw [HC.out]; exact hu, by rw [HC.out]; rfl, hb1⟩⟩
theorem escape_any (w : World) (g : Nat) (s : ByteArray) (k : Nat) (l : List UInt8) (h : RdrAt w g s (k + 1) l) (hk : k + 1 <= s.size) (hs : s.size <= 1048576) (hl : l.length <= 9000000) :
  Calls Tryz.prog 182 #[.pointer (some ⟨g, 0, none⟩)] w (PartP g s w (.tuple #[]) k l (escQ ((bs s).drop (k + 1)))) := by
 obtain ⟨r, hr⟩ : ∃ r, r = (bs s).drop (k + 1) := ⟨_, rfl⟩; rw [<- hr]
 cases hq : r with
 | nil =>
  have hN := fun W h => rnext_nil W g s (k + 1) l h hk (by rw [<- hr]; exact hq) hs
  have HC : Hid (escQ r = errR 2) := Lib.hid (by rw [hq]; rfl)
  rw [<- hq]; have HR := Lib.hid hr; clear hq hr; go_enter Tryz.func182, Tryz.ntmps182; go_wp2_with fail; refine (hN _ h).mono ?_; rintro e w1 ⟨rfl, hb1⟩; go_wp2; exact ⟨rfl, .inr ⟨by rw [HC.out]; simp [errR], by rw [HC.out]; rfl, hb1⟩⟩
 | cons c t =>
  rw [<- hq]; have hN0 : (bs s).drop (k + 1) = c :: t := by rw [<- hr]; exact hq
  have hN := fun W h => rnext_cons W g s (k + 1) l h hN0 hs; have hc : c < 256 := bs_lt c (List.mem_of_mem_drop (by rw [hN0]; simp))
  have HR := Lib.hid hr; clear hr
  by_cases hc34 : c = 34
  ·subst hc34
   have HC : Hid (escQ r = ([34], 2, 0)) := Lib.hid (by rw [hq]; rfl)
   clear hq hN0; go_enter Tryz.func182, Tryz.ntmps182; go_wp2_with fail; refine (hN _ h).mono ?_; rintro e w1 ⟨rfl, hR1, hb1, hB1⟩; go_wp2_with fail; refine (rWB w1 g s _ l 34 _ (by first | rfl | decide) (by omega) hR1 (by omega)).mono ?_
   rintro e w2 ⟨rfl, hR2, hb2, hB2⟩; go_wp2; go_end0
   exact .inl ⟨by rw [HC.out], by rw [HC.out]; exact ⟨rfl, hR2, hb1.trans hb2, hB1.trans hB2⟩⟩
  by_cases hc92 : c = 92
  ·subst hc92
   have HC : Hid (escQ r = ([92], 2, 0)) := Lib.hid (by rw [hq]; rfl)
   clear hq hN0; go_enter Tryz.func182, Tryz.ntmps182; go_wp2_with fail; refine (hN _ h).mono ?_; rintro e w1 ⟨rfl, hR1, hb1, hB1⟩; go_wp2_with fail; refine (rWB w1 g s _ l 92 _ (by first | rfl | decide) (by omega) hR1 (by omega)).mono ?_
   rintro e w2 ⟨rfl, hR2, hb2, hB2⟩; go_wp2; go_end0
   exact .inl ⟨by rw [HC.out], by rw [HC.out]; exact ⟨rfl, hR2, hb1.trans hb2, hB1.trans hB2⟩⟩
  by_cases hc47 : c = 47
  ·subst hc47
   have HC : Hid (escQ r = ([47], 2, 0)) := Lib.hid (by rw [hq]; rfl)
   clear hq hN0; go_enter Tryz.func182, Tryz.ntmps182; go_wp2_with fail; refine (hN _ h).mono ?_; rintro e w1 ⟨rfl, hR1, hb1, hB1⟩; go_wp2_with fail; refine (rWB w1 g s _ l 47 _ (by first | rfl | decide) (by omega) hR1 (by omega)).mono ?_
   rintro e w2 ⟨rfl, hR2, hb2, hB2⟩; go_wp2; go_end0
   exact .inl ⟨by rw [HC.out], by rw [HC.out]; exact ⟨rfl, hR2, hb1.trans hb2, hB1.trans hB2⟩⟩
  by_cases hc98 : c = 98
  ·subst hc98
   have HC : Hid (escQ r = ([8], 2, 0)) := Lib.hid (by rw [hq]; rfl)
   clear hq hN0; go_enter Tryz.func182, Tryz.ntmps182; go_wp2_with fail; refine (hN _ h).mono ?_; rintro e w1 ⟨rfl, hR1, hb1, hB1⟩; go_wp2_with fail; refine (rWB w1 g s _ l 8 _ (by first | rfl | decide) (by omega) hR1 (by omega)).mono ?_
   rintro e w2 ⟨rfl, hR2, hb2, hB2⟩; go_wp2; go_end0
   exact .inl ⟨by rw [HC.out], by rw [HC.out]; exact ⟨rfl, hR2, hb1.trans hb2, hB1.trans hB2⟩⟩
  by_cases hc102 : c = 102
  ·subst hc102
   have HC : Hid (escQ r = ([12], 2, 0)) := Lib.hid (by rw [hq]; rfl)
   clear hq hN0; go_enter Tryz.func182, Tryz.ntmps182; go_wp2_with fail; refine (hN _ h).mono ?_; rintro e w1 ⟨rfl, hR1, hb1, hB1⟩; go_wp2_with fail; refine (rWB w1 g s _ l 12 _ (by first | rfl | decide) (by omega) hR1 (by omega)).mono ?_
   rintro e w2 ⟨rfl, hR2, hb2, hB2⟩; go_wp2; go_end0
   exact .inl ⟨by rw [HC.out], by rw [HC.out]; exact ⟨rfl, hR2, hb1.trans hb2, hB1.trans hB2⟩⟩
  by_cases hc110 : c = 110
  ·subst hc110
   have HC : Hid (escQ r = ([10], 2, 0)) := Lib.hid (by rw [hq]; rfl)
   clear hq hN0; go_enter Tryz.func182, Tryz.ntmps182; go_wp2_with fail; refine (hN _ h).mono ?_; rintro e w1 ⟨rfl, hR1, hb1, hB1⟩; go_wp2_with fail; refine (rWB w1 g s _ l 10 _ (by first | rfl | decide) (by omega) hR1 (by omega)).mono ?_
   rintro e w2 ⟨rfl, hR2, hb2, hB2⟩; go_wp2; go_end0
   exact .inl ⟨by rw [HC.out], by rw [HC.out]; exact ⟨rfl, hR2, hb1.trans hb2, hB1.trans hB2⟩⟩
  by_cases hc114 : c = 114
  ·subst hc114
   have HC : Hid (escQ r = ([13], 2, 0)) := Lib.hid (by rw [hq]; rfl)
   clear hq hN0; go_enter Tryz.func182, Tryz.ntmps182; go_wp2_with fail; refine (hN _ h).mono ?_; rintro e w1 ⟨rfl, hR1, hb1, hB1⟩; go_wp2_with fail; refine (rWB w1 g s _ l 13 _ (by first | rfl | decide) (by omega) hR1 (by omega)).mono ?_
   rintro e w2 ⟨rfl, hR2, hb2, hB2⟩; go_wp2; go_end0
   exact .inl ⟨by rw [HC.out], by rw [HC.out]; exact ⟨rfl, hR2, hb1.trans hb2, hB1.trans hB2⟩⟩
  by_cases hc116 : c = 116
  ·subst hc116
   have HC : Hid (escQ r = ([9], 2, 0)) := Lib.hid (by rw [hq]; rfl)
   clear hq hN0; go_enter Tryz.func182, Tryz.ntmps182; go_wp2_with fail; refine (hN _ h).mono ?_; rintro e w1 ⟨rfl, hR1, hb1, hB1⟩; go_wp2_with fail; refine (rWB w1 g s _ l 9 _ (by first | rfl | decide) (by omega) hR1 (by omega)).mono ?_
   rintro e w2 ⟨rfl, hR2, hb2, hB2⟩; go_wp2; go_end0
   exact .inl ⟨by rw [HC.out], by rw [HC.out]; exact ⟨rfl, hR2, hb1.trans hb2, hB1.trans hB2⟩⟩
  have hno : escB c = none := by
   unfold escB; rw [if_neg (by omega), if_neg hc98, if_neg hc102, if_neg hc110, if_neg hc114, if_neg hc116]
  by_cases hc117 : c = 117
  ·subst hc117
   obtain ⟨hd1, hd2⟩ := drop_cons hN0; rw [bs_length] at hd2; have hnum := fun W h => number_any W g s k l h (by omega) hs hl
   rw [show (bs s).drop (k + 2) = t from hd1] at hnum; have HC : Hid (escQ r = codedQ t) := Lib.hid (by rw [hq]; rfl)
   clear hq hN0 hno hd1 hc34 hc92 hc47 hc98 hc102 hc110 hc114 hc116; go_enter Tryz.func182, Tryz.ntmps182; go_wp2_with fail; refine (hN _ h).mono ?_; rintro e w1 ⟨rfl, hR1, hb1, hB1⟩; go_wp2_with fail; refine (hnum _ hR1).mono ?_; rintro e w2 (⟨h0, rfl, hR2, hb2, hB2⟩ | ⟨h0, rfl, hb2⟩)
   ·have H0 := Lib.hid h0
    clear h0; go_wp2; go_end0
    exact .inl ⟨by rw [HC.out]; exact H0.out, by rw [HC.out]; exact ⟨rfl, hR2, hb1.trans hb2, hB1.trans hB2⟩⟩
   ·have H0 := Lib.hid h0
    clear h0; go_wp2; exact ⟨rfl, .inr ⟨by rw [HC.out]; exact H0.out, by rw [HC.out]; exact ⟨rfl, hb1.trans hb2⟩⟩⟩
  ·have HC : Hid (escQ r = errR 3) := Lib.hid (by rw [hq]; simp only [escQ, hno, if_neg hc117])
   have b1 : ((c : Int) == 34) = false := by rw [beq_eq_false_iff_ne]; omega
   have b2 : ((c : Int) == 92) = false := by rw [beq_eq_false_iff_ne]; omega
   have b3 : ((c : Int) == 47) = false := by rw [beq_eq_false_iff_ne]; omega
   have b4 : ((c : Int) == 98) = false := by rw [beq_eq_false_iff_ne]; omega
   have b5 : ((c : Int) == 102) = false := by rw [beq_eq_false_iff_ne]; omega
   have b6 : ((c : Int) == 110) = false := by rw [beq_eq_false_iff_ne]; omega
   have b7 : ((c : Int) == 114) = false := by rw [beq_eq_false_iff_ne]; omega
   have b8 : ((c : Int) == 116) = false := by rw [beq_eq_false_iff_ne]; omega
   have b9 : ((c : Int) == 117) = false := by rw [beq_eq_false_iff_ne]; omega
   clear hq hN0 hno hc34 hc92 hc47 hc98 hc102 hc110 hc114 hc116 hc117; go_enter Tryz.func182, Tryz.ntmps182; go_wp2_with fail; refine (hN _ h).mono ?_; rintro e w1 ⟨rfl, hR1, hb1, hB1⟩; go_wp2_with fail; refine (fail_any 3 _).mono ?_; rintro e w2 ⟨rfl, rfl⟩; go_wp2; exact ⟨rfl, .inr ⟨by rw [HC.out]; simp [errR], by rw [HC.out]; rfl, hb1⟩⟩
section
variable {w : World} {ops : Array Oper} {rest : List Oper} {o : Oper} {a : Act} {Q : Exit -> Act -> World -> Prop}
end
end Go.Proofs.YtbcdaaobbebooaaGreatDoor
namespace Go.Proofs.YtbcdaaobbebooaaGreatDoor
set_option maxRecDepth 100000
set_option maxHeartbeats 20000000
open Go.RowKit Go.Tab Go.Shelf
attribute [local go_sem] Oper.semAt_some
theorem uAll_any (s : ByteArray) (w : World) :
  Calls Tryz.prog 189 #[.string s] w fun e w' => e = .returned (.func (.func 212) #[] #[.pointer (some ⟨w.heap.size, 0, none⟩)]) /\ w' = w.alloc (.cells #[.string s] 9) := by
 go_enter Tryz.func189, Tryz.ntmps189; go_wp2; go_ret; exact ⟨rfl, rfl⟩
def TwoKept (g : Nat) (A B : World) : Prop := A.heap.size <= B.heap.size /\ B.heap[1]? = A.heap[1]? /\ B.heap[g]? = A.heap[g]?
theorem TwoKept.refl (g : Nat) (A : World) : TwoKept g A A := ⟨Nat.le_refl _, rfl, rfl⟩
theorem TwoKept.trans {g : Nat} {A B C : World} (h : TwoKept g A B) (h2 : TwoKept g B C) : TwoKept g A C := ⟨Nat.le_trans h.1 h2.1, h2.2.1.trans h.2.1, h2.2.2.trans h.2.2⟩
theorem TwoKept.tab {g : Nat} {A B : World} (h : TwoKept g A B) (hT : Tab A) : Tab B := fun j hj => (World.cell?_of_block h.2.1).trans (hT j hj)
theorem TwoKept.box {g : Nat} {A B : World} (h : TwoKept g A B) {v : Value} (hc : A.cell? ⟨g, 0, none⟩ = some v) : B.cell? ⟨g, 0, none⟩ = some v := (World.cell?_of_block h.2.2).trans hc
theorem uAll1_in (n : Nat) (hn : 2 <= n) (l0 Bn : Nat) (s : ByteArray) (hs : s.size <= 1048576) (J Jx : List (Nat × Nat) -> World -> Prop)
  (hY : ∀ pre x W, J pre W -> pre.length < (scan (bs s) 0).1.length -> YieldAt Fence.wide (n - 1) Tryz.prog l0 #[.int .i64 (x.1 : Nat), .int .i64 (x.2 : Nat)] W fun e W' =>
   (e = .returned (.bool true) /\ J (pre ++ [x]) W' /\ TwoKept Bn W W') \/ (e = .returned (.bool false) /\ Jx (pre ++ [x]) W'))
  (W : World) (hBn : W.cell? ⟨Bn, 0, none⟩ = some (.string s)) (hT : Tab W) (h0 : J [] W) :
  CallsIn Fence.wide n Tryz.prog 212 #[.func (.yield l0) #[] #[], .pointer (some ⟨Bn, 0, none⟩)] W fun e W' => (∃ v, e = .returned v) /\
   ((∃ ys, ys = (scan (bs s) 0).1 /\ J ys W') \/ (∃ pre, pre <+: (scan (bs s) 0).1 /\ Jx pre W')) := by
 refine callsIn_of_wp Tryz.func212 rfl trivial ?_ rfl; simp only [Tryz.ntmps212, List.size_toArray, List.length_cons, List.length_nil, Nat.reduceAdd, Nat.reduceSub, Array.replicate_succ, Array.replicate_zero, List.push_toArray, List.append_toArray, List.nil_append, List.cons_append]
 gi_wp2
 gi_loopw [3] (fun i wr => ∃ (k : Nat) (pre : List (Nat × Nat)), i = .int .i64 k /\ k <= s.size /\ Rest (bs s) k pre /\ J pre wr /\ TwoKept Bn W wr)
  (fun i wr => s.size - (intOf i).toNat)
 case atStart => exact ⟨0, [], rfl, Nat.zero_le _, Rest.zero _, h0, TwoKept.refl _ _⟩
 case round =>
  obtain ⟨k, pre, rfl, hk, hr, hJ, hb⟩ := hrel; have HR := Lib.hid hr; have hbx := hb.box hBn; have hTr := hb.tab hT; clear hr
  by_cases h : k < s.size
  ·obtain ⟨c, m, h1⟩ : ∃ c m, oneN ((bs s).drop k) = (c, m) := ⟨_, _, rfl⟩
   have hle := (oneN_le ((bs s).drop k) (fun x hx => bs_lt x (List.mem_of_mem_drop hx))).1; have hF := first_any s k wr hTr (by omega)
   unfold firstPost at hF; rw [h1] at hF hle; simp only [List.length_drop, bs_length] at hle; have H1 := Lib.hid h1; have HF := Lib.hid hF; clear h1 hF
   by_cases hm : m = 0
   ·subst hm
    have h2 := Lib.hid (HR.out.bad (by rw [bs_length]; exact h) (by rw [H1.out]))
    clear hY
    gi_wp2
    refine ⟨trivial, fun _ => by omega, ?_⟩
    refine (callsIn_wide.2 HF.out).mono ?_; rintro e w9 ⟨rfl, rfl⟩; clear HF
    gi_wp2
    refine ⟨fun _ h => (by cases h), ?_⟩
    gi_wp2
    refine bodyPost_ret (results_none rfl _ _ _) rfl ?_; exact ⟨⟨_, rfl⟩, .inl ⟨pre, by rw [h2.out], hJ⟩⟩
   ·have h2 := Lib.hid (HR.out.good (by rw [bs_length]; exact h) H1.out hm)
    have hbn : ((m : Int) == 0) = false := by rw [beq_eq_false_iff_ne]; omega
    have hm1 : 1 <= m := by omega
    have hlt : pre.length < (scan (bs s) 0).1.length := by rw [h2.out]; simp
    obtain ⟨fn, tmps, assign, body, hy, hR⟩ := hY pre (k, c) wr hJ hlt; have hpre : Hid (pre ++ [(k, c)] <+: (scan (bs s) 0).1) := Lib.hid ⟨(scan ((bs s).drop (k + m)) (k + m)).1, by rw [h2.out]⟩
    clear hm hY
    gi_wp2
    refine ⟨trivial, fun _ => by omega, ?_⟩
    refine (callsIn_wide.2 HF.out).mono ?_; rintro e w9 ⟨rfl, rfl⟩; clear HF
    gi_wp2
    refine ⟨fun _ => by omega, hR.mono ?_⟩
    rintro e W3 (⟨rfl, hJ3, hk3⟩ | ⟨rfl, hJx3⟩)
    ·gi_wp2
     refine ⟨⟨k + m, pre ++ [(k, c)], by go_num, by omega, h2.out, hJ3, hb.trans hk3⟩, ?_⟩
     simp [intOf]; omega
    ·gi_wp2
     refine bodyPost_ret (results_none rfl _ _ _) rfl ?_; exact ⟨⟨_, rfl⟩, .inr ⟨_, hpre.out, hJx3⟩⟩
  ·have h2 := Lib.hid (HR.out.done (by rw [bs_length]; omega))
   clear hY
   gi_wp2
   refine bodyPost_end (results_none rfl _ _ _) rfl ?_; exact ⟨⟨_, rfl⟩, .inl ⟨pre, by rw [h2.out], hJ⟩⟩
attribute [local go_sem] Oper.semAt_some
theorem oneN_take4 (l : List Nat) : oneN (l.take 4) = oneN l := by
 match l with
 | [] => rfl
 | [_] => rfl
 | [_, _] => rfl
 | [_, _, _] => rfl
 | [_, _, _, _] => rfl
 | a :: b :: c :: d :: e :: r => rfl
def OkW (g : Nat) (s : ByteArray) (w : World) (v : Value) (k' : Nat) (l' : List UInt8) (e : Ending) (w' : World) : Prop :=
 e = .returned v /\ RdrAt w' g s k' l' /\ Below g w w'
def ScalP (g : Nat) (s : ByteArray) (w : World) (k : Nat) (l : List UInt8) (L : List Nat) (e : Ending) (w' : World) : Prop :=
 ((oneN L).2 ≠ 0 /\ OkW g s w (.tuple #[]) (k + (oneN L).2) (l ++ un (L.take (oneN L).2)) e w') \/ ((oneN L).2 = 0 /\ BadR g w 7 e w')
theorem extract_bs (s : ByteArray) (a b : Nat) : bs (s.extract a b) = ((bs s).drop a).take (b - a) := by
 simp [bs, List.map_drop, List.map_take, List.drop_take]
def putX (c : Nat) : List UInt8 := if isSc c then putU c else []
theorem putX_len (c : Nat) : (putX c).length <= 4 := by
 unfold putX; split
 ·rw [putU_length]; exact (wid_pos c).2
 ·simp
theorem PutX_any (c : Nat) (w : World) : Calls Tryz.prog 209 #[.int .i64 c] w fun e w' => e = .returned (.tuple #[.string (strOf (putX c)), .bool (isSc c)]) /\ Below w.heap.size w w' := by
 unfold putX
 cases h : isSc c with
 | true =>
  refine (Put_any c w h).mono ?_; rintro e w' ⟨rfl, hb⟩; exact ⟨by simp, hb⟩
 | false =>
  refine (Put_none (c : Int) w (by rw [isScI_nat]; exact h)).mono ?_
  rintro e w' ⟨rfl, rfl⟩; exact ⟨rfl, Below.refl _ _⟩
theorem RdrAt.kept {w w' : World} {g : Nat} {s : ByteArray} {k : Nat} {l : List UInt8} {row : Option Nat} (h : RdrAt w g s k l) (hg : w.grownBy w' row) (hr : ∀ r, row = some r -> ∃ o : Obj, w.heap[r]? = some o /\ o.isCells = false) : RdrAt w' g s k l := by
 obtain ⟨cs, ⟨h1, h2, v, h3, h4⟩, h5⟩ := h
 have hrow : v.ownBlock = none \/ v.ownBlock ≠ row := by
  cases hv : v.ownBlock with
  | none => exact .inl rfl
  | some b =>
   refine .inr fun e => ?_; obtain ⟨o, ho, hc⟩ := hr _ e.symm; obtain ⟨cs', fr, hb⟩ := own_is_row h4 b hv; rw [hb] at ho; cases ho; cases hc
 refine ⟨cs, ⟨h1.kept hg ?_, h2, v, h3, h4.kept hg hrow⟩, h5⟩; intro e; obtain ⟨o, ho, hc⟩ := hr _ e.symm; rw [show w.heap[g]? = _ from h1] at ho; cases ho; cases hc
theorem keeps_beside {E : TypeId} {B g : Nat} {w w' : World} {cs : Array Value} {t : TypeId} (h : Beside E g w w') (hg : Cells w g cs t) : KeepsFrom B w w' :=
 ⟨h.1, fun k o _ hk ho => h.2 k o (by rintro rfl; rw [show w.heap[k]? = _ from hg] at hk; cases hk; cases ho) hk (fun cs' fr e => by subst e; cases ho)⟩
def ScI (w : World) (g : Nat) (s : ByteArray) (k : Nat) (l : List UInt8) (pre : List (Nat × Nat)) (W : World) : Prop :=
 (pre = [] /\ RdrAt W g s k l /\ Cells W w.heap.size #[.pointer (some ⟨g, 0, none⟩)] 178) /\ Below g w W
def ScX (w : World) (g : Nat) (s : ByteArray) (k : Nat) (l : List UInt8) (c : Code) (pre : List (Nat × Nat)) (W : World) : Prop :=
 (c = .ret /\ ∃ x : Nat × Nat, pre = [x] /\ RdrAt W g s (k + (putX x.2).length) (l ++ putX x.2)) /\ Below g w W
theorem ScI_own (w : World) (g : Nat) (s : ByteArray) (k : Nat) (l : List UInt8) (L : Nat) (hg : g <= w.heap.size) (hL : g <= L) : OwnFrom L (ScI w g s k l) :=
 OwnFrom.and (Own.from (fun pre A B row hs hg' hr => ⟨hs.1, hs.2.1.kept hg' hr, hs.2.2.kept hg' (fun e' => by
  obtain ⟨o, ho, hc⟩ := hr _ e'.symm
  rw [show A.heap[w.heap.size]? = _ from hs.2.2] at ho; cases ho; cases hc)⟩) _) (ownFrom_below hg hL)
theorem ScX_own (w : World) (g : Nat) (s : ByteArray) (k : Nat) (l : List UInt8) (L : Nat) (hg : g <= w.heap.size) (hL : g <= L) (c : Code) : OwnFrom L (ScX w g s k l c) :=
 OwnFrom.and (Own.from (fun pre A B row hs hg' hr => by
  obtain ⟨h1, x, h2, h3⟩ := hs
  exact ⟨h1, x, h2, h3.kept hg' hr⟩) _) (ownFrom_below hg hL)
theorem TwoKept.put (g : Nat) (w : World) (h0 : 1 < w.heap.size) (hg : g < w.heap.size) (W : World) (l : Nat) (o o' : Obj) (hl : w.heap.size <= l) (_ : W.heap[l]? = some o) (_ : o.isCells = false) (_ : o.isWalk = false) : TwoKept g W (W.putObj l o') :=
 ⟨(grownBy_putObj' W l o').size, World.putObj_heap_other (by omega), World.putObj_heap_other (by omega)⟩
theorem uAll_stops (n : Nat) (hn : 2 <= n) (Bn : Nat) (s : ByteArray) (hs : s.size <= 1048576) (w : World) (hBn : Bn < w.heap.size)
  (hc : w.cell? ⟨Bn, 0, none⟩ = some (.string s)) (hT : Tab w) :
  SeqStopsK Fence.wide n Tryz.prog 212 #[.pointer (some ⟨Bn, 0, none⟩)] (fun x : Nat × Nat => #[.int .i64 (x.1 : Nat), .int .i64 (x.2 : Nat)]) (TwoKept Bn) (fun ys => ys = (scan (bs s) 0).1) (fun pre => pre <+: (scan (bs s) 0).1) (scan (bs s) 0).1.length w := fun l0 J Jx W hW _ _ hY h0 =>
 uAll1_in n hn l0 Bn s hs J Jx hY W ((hW.cell (p := ⟨Bn, 0, none⟩) hBn).trans hc) (hT.below hW hT.pos) h0
theorem scalar_any (w : World) (g : Nat) (s : ByteArray) (k : Nat) (l : List UInt8) (h : RdrAt w g s k l) (hk : k < s.size) (hs : s.size <= 1048576) (hl : l.length <= 9000000) (hT : Tab w) :
  Calls Tryz.prog 184 #[.pointer (some ⟨g, 0, none⟩)] w (ScalP g s w k l ((bs s).drop k)) := by
 refine (callsIn_wide (n := 9)).1 ?_; have hR0 := h.below ((Below.refl _ w).alloc (Nat.le_refl _) (.cells #[.pointer (some ⟨g, 0, none⟩)] 178)); have hlt := h.lt; obtain ⟨cs, hb, h5, h6, h7⟩ := id hR0; have c0 := hb.cells.cell 0 _ h6; have c1 := hb.cells.cell 1 _ h7; have c9 := (Cells.new w #[.pointer (some ⟨g, 0, none⟩)] 178).cell 0 _ rfl; clear hb h5 h6 h7
 by_cases hk4 : k + 4 <= s.size
 ·have hmin : min ((k : Int) + 4) (s.size : Int) = (k : Int) + 4 := by omega
  obtain ⟨R, hR⟩ : ∃ R, R = s.extract k ((k : Int) + 4).toNat := ⟨_, rfl⟩; refine callsIn_of_wp_marks Tryz.func184 rfl trivial ?_ rfl; simp only [Tryz.ntmps184, List.size_toArray, List.length_cons, List.length_nil, Nat.reduceAdd, Nat.reduceSub, Array.replicate_succ, Array.replicate_zero, List.push_toArray, List.append_toArray, List.nil_append, List.cons_append]; have hRr := Lib.hid hR; have hsl : s.extract k ((k : Int) + 4).toNat = R := hR.symm
  gi_wp2
  have hRb : bs R = ((bs s).drop k).take 4 := by rw [hR, extract_bs]; congr 1; omega
  have hRne : bs R ≠ [] := by rw [hRb]; intro h0; have := congrArg List.length h0; simp [bs_length] at this; omega
  clear hR
  gi_quiet (fail)
  have hw0 : ∃ w0, w0 = (w.alloc (.cells #[.pointer (some ⟨g, 0, none⟩)] 178)).drewN nq := ⟨_, rfl⟩; obtain ⟨w0, hw0⟩ := hw0; rw [<- hw0]; have hR1 : RdrAt w0 g s k l := by rw [hw0]; exact hR0.drewN _
  have hC1 : Cells w0 w.heap.size #[.pointer (some ⟨g, 0, none⟩)] 178 := by rw [hw0]; exact (Cells.new w _ _).drewN _
  have hb1 : Below w.heap.size w w0 := by rw [hw0]; exact Below.drewN' ((Below.refl _ w).alloc (Nat.le_refl _) _) _
  have hz0 : w0.heap.size = w.heap.size + 1 := by rw [hw0]; simp
  have HA := Lib.hid (uAll_any R w0); have HZ := Lib.hid hz0; clear c0 c1 c9 hw0 hmin hz0
  gi_wp2
  refine ⟨trivial, (callsIn_wide.2 HA.out).mono ?_⟩; rintro e w1 ⟨rfl, hw1⟩; clear HA; have hz0 := HZ.out; have hz1 : w1.heap.size = w.heap.size + 2 := by rw [hw1]; simp [hz0]
  have hb2' : Below w0.heap.size w0 w1 := by rw [hw1]; exact (Below.refl _ _).alloc (Nat.le_refl _) _
  have hcB : w1.cell? ⟨w.heap.size + 1, 0, none⟩ = some (.string R) := by
   have h := World.cell?_alloc_new (w := w0) #[.string R] 9 0; rw [hz0] at h; rw [hw1]; exact h
  have hR2 := hR1.below hb2'; have hC2 := hC1.below hb2' hC1.lt; have hb2 : Below w.heap.size w w1 := hb1.trans (hb2'.mono (by omega))
  have hT1 := hT.below hb2 hT.pos; have h0w := hT.pos; rw [hz0]; clear hw1 hb2' hR1 hC1 hb1 hz0; have hneq : Sem.run Tryz.prog (binOp .neq 216 (Value.func (Fn.func 212) #[] #[Value.pointer (some { block := w.heap.size + 1, off := 0 })]) Value.nilFunc) w1 = .ok (.bool true) w1 := by rfl
  gi_wp2
  have hwL : g <= w1.heap.size := by omega
  refine wpIn_rangeFunc_ownG rfl (by omega) (gf := 212) (lb := #[.pointer (some ⟨w.heap.size + 1, 0, none⟩)]) rfl trivial (enters_of Tryz.func212 (by kernel_rfl) rfl)
   (uAll_stops 8 (by omega) (w.heap.size + 1) R (by rw [<- bs_length, hRb]; simp; omega) w1 (by omega) hcB hT1) TwoKept.trans (TwoKept.put (w.heap.size + 1) w1 (by omega) (by omega)) (Below.refl _ _) (fun _ => rfl)
   (ScI w g s k l) (ScX w g s k l) (ScI_own w g s k l _ (by omega) hwL) (ScX_own w g s k l _ (by omega) hwL)
   ⟨⟨rfl, hR2, hC2⟩, hb2.mono (by omega)⟩
   (fun x => { tmps := #[.pointer (some ⟨g, 0, none⟩), .pointer (some ⟨w.heap.size, 0, none⟩), .string R, undef, .int .i64 (x.2 : Nat), undef, undef, .pointer (some ⟨g, 0, none⟩), .pointer (some ⟨g, 0, none⟩), .pointer (some ⟨g, 0, none⟩), .string s, .pointer (some ⟨g, 0, none⟩), .pointer (some ⟨g, 0, none⟩), .pointer (some ⟨g, 1, none⟩), .int .i64 (k : Int), .pointer (some ⟨g, 0, none⟩), .pointer (some ⟨g, 0, none⟩), .pointer (some ⟨g, 1, none⟩), .int .i64 (k : Int), .int .i64 ((k : Int) + 4), .pointer (some ⟨g, 0, none⟩), .pointer (some ⟨g, 0, none⟩), .pointer (some ⟨g, 0, none⟩), .string s, .int .i64 (s.size : Int), .int .i64 ((k : Int) + 4), .string R, .string R, .func (.func 212) #[] #[.pointer (some ⟨w.heap.size + 1, 0, none⟩)], .int .i64 (x.1 : Nat), .int .i64 (x.2 : Nat), undef, undef, undef, undef, undef, undef, undef, undef, undef, undef, undef, undef, undef, undef, undef, undef, undef, undef, undef, undef], defers := [] }) ?assign ?body ?done ?stop
  case assign =>
   intro l x W K hK
   gi_wp2
   exact hK
  case body =>
   rintro l0 pre x W ⟨⟨rfl, hRW, hCW⟩, hbW⟩ -; have hltW := hRW.lt; have hPX := PutX_any x.2 W; have hplen := putX_len x.2; have hpsz : (strOf (putX x.2)).size = (putX x.2).length := strOf_size _; generalize hpx : putX x.2 = px at *; have HPX := Lib.hid hpx; have HPS := Lib.hid hpsz; clear hpx hpsz; have hcw := hCW.cell 0 _ rfl
   gi_wp2
   refine ⟨trivial, (CallsIn.inRound l0 (callsIn_wide.2 hPX)).mono ?_⟩; rintro e w3 ⟨rfl, hb3⟩; have hz3 := hb3.size; have hR3 := hRW.below hb3; have hC3 := hCW.below hb3 hCW.lt; have hcw3 := hC3.cell 0 _ rfl; have hWS := rWS w3 g s k l (strOf px) hR3 (by rw [HPS.out]; omega)
   gi_wp2
   refine ⟨trivial, (CallsIn.inRound l0 (callsIn_wide.2 hWS)).mono ?_⟩; rintro e w4 ⟨rfl, hR4, hb4, hB4⟩; obtain ⟨cs4, hb4', h54, h64, h74⟩ := id hR4; have c14 := hb4'.cells.cell 1 _ h74; have f14 := hb4'.cells.frozen 1; have hC4 := hB4.cells hC3 (by omega) (by decide)
   have hcw4 := hC4.cell 0 _ rfl; clear hb4' h54 h64 h74; have hR5 := hR4.moved (k + px.length); obtain ⟨cw, hcw', -⟩ := id hRW; have hkeep := keeps_beside (B := w1.heap.size) (((Beside.of_below (E := 5) (g := g) hb3).trans hB4).setCell 1 (.int .i64 ((k + px.length : Nat) : Int))) hcw'.cells; have hbW5 := ((hbW.trans (hb3.mono (by omega))).trans hb4).setCell (p := ⟨g, 1, none⟩) (Nat.le_refl _) (.int .i64 ((k + px.length : Nat) : Int))
   have hl4 := HPS.out
   gi_wp2
   exact ⟨hkeep, ⟨rfl, x, rfl, by rw [HPX.out]; exact hR5⟩, hbW5⟩
  case done =>
   rintro D ys W hD hys ⟨⟨rfl, hRW, hCW⟩, hbW⟩ hK
   have h0 : (oneN ((bs s).drop k)).2 = 0 := by
    rw [<- oneN_take4, <- hRb]; exact Decidable.byContradiction fun hn => by rw [scan_step hRne, if_neg hn] at hys; cases hys
   gi_wp2
   refine ⟨trivial, (callsIn_wide.2 (fail_any 7 W)).mono ?_⟩; rintro e w3 ⟨rfl, rfl⟩
   gi_wp2
   refine ⟨by simp, .inl ⟨_, _, rfl, run_takeDeferred hK, ?_⟩⟩
   exact .inr ⟨h0, rfl, hbW.trans ((belowK_b (w := w) (Nat.le_refl _) W D _ _ (by omega) hK rfl rfl).mono (by omega))⟩
  case stop =>
   rintro D c pre W hD hpre ⟨⟨rfl, x, rfl, hRW⟩, hbW⟩ hK
   have hx : (oneN ((bs s).drop k)).2 ≠ 0 /\ putX x.2 = un (((bs s).drop k).take (oneN ((bs s).drop k)).2) /\ (putX x.2).length = (oneN ((bs s).drop k)).2 := by
    rw [<- oneN_take4, <- hRb]; have hn : (oneN (bs R)).2 ≠ 0 := fun hn => by rw [scan_bad hRne hn] at hpre; simp at hpre
    rw [scan_step hRne, if_neg hn] at hpre; obtain ⟨t, ht⟩ := hpre; simp only [List.cons_append, List.nil_append, List.cons.injEq] at ht; obtain ⟨rfl, -⟩ := ht; obtain ⟨q1, q2, q3, q4⟩ := put_oneN (l := bs R) (c := (oneN (bs R)).1) (n := (oneN (bs R)).2) bs_lt (by rfl) hn
    have e1 : putX (oneN (bs R)).1 = putU (oneN (bs R)).1 := by unfold putX; rw [if_pos q1]
    refine ⟨hn, ?_, ?_⟩
    ·rw [e1]
     show un (putN _) = _; rw [q3, hRb, List.take_take, Nat.min_eq_left (by rw [<- hRb]; exact (oneN_le _ bs_lt).2)]
    ·rw [e1, putU_length, q2]
   gi_wp2
   refine ⟨by simp, .inl ⟨_, _, rfl, run_takeDeferred hK, ?_⟩⟩
   refine ⟨_, results_none rfl _ _ _, .inl ⟨hx.1, rfl, ?_, ?_⟩⟩
   ·have := hRW.kept (grownBy_putObj' W D (.deferred none)) (fun r e => by cases e; exact ⟨_, hK, rfl⟩)
    rw [hx.2.2, hx.2.1] at this; exact this
   ·exact hbW.trans ((belowK_b (w := w) (Nat.le_refl _) W D _ _ (by omega) hK rfl rfl).mono (by omega))
 ·have hmin : min ((k : Int) + 4) (s.size : Int) = (s.size : Int) := by omega
  obtain ⟨R, hR⟩ : ∃ R, R = s.extract k s.size := ⟨_, rfl⟩; refine callsIn_of_wp_marks Tryz.func184 rfl trivial ?_ rfl; simp only [Tryz.ntmps184, List.size_toArray, List.length_cons, List.length_nil, Nat.reduceAdd, Nat.reduceSub, Array.replicate_succ, Array.replicate_zero, List.push_toArray, List.append_toArray, List.nil_append, List.cons_append]; have hRr := Lib.hid hR; have hsl : s.extract k s.size = R := hR.symm
  gi_wp2
  have hRb : bs R = ((bs s).drop k).take 4 := by rw [hR, extract_bs]; rw [List.take_of_length_le (by simp [bs_length]), List.take_of_length_le (by simp [bs_length]; omega)]
  have hRne : bs R ≠ [] := by rw [hRb]; intro h0; have := congrArg List.length h0; simp [bs_length] at this; omega
  clear hR
  gi_quiet (fail)
  have hw0 : ∃ w0, w0 = (w.alloc (.cells #[.pointer (some ⟨g, 0, none⟩)] 178)).drewN nq := ⟨_, rfl⟩; obtain ⟨w0, hw0⟩ := hw0; rw [<- hw0]; have hR1 : RdrAt w0 g s k l := by rw [hw0]; exact hR0.drewN _
  have hC1 : Cells w0 w.heap.size #[.pointer (some ⟨g, 0, none⟩)] 178 := by rw [hw0]; exact (Cells.new w _ _).drewN _
  have hb1 : Below w.heap.size w w0 := by rw [hw0]; exact Below.drewN' ((Below.refl _ w).alloc (Nat.le_refl _) _) _
  have hz0 : w0.heap.size = w.heap.size + 1 := by rw [hw0]; simp
  have HA := Lib.hid (uAll_any R w0); have HZ := Lib.hid hz0; clear c0 c1 c9 hw0 hmin hz0
  gi_wp2
  refine ⟨trivial, (callsIn_wide.2 HA.out).mono ?_⟩; rintro e w1 ⟨rfl, hw1⟩; clear HA; have hz0 := HZ.out; have hz1 : w1.heap.size = w.heap.size + 2 := by rw [hw1]; simp [hz0]
  have hb2' : Below w0.heap.size w0 w1 := by rw [hw1]; exact (Below.refl _ _).alloc (Nat.le_refl _) _
  have hcB : w1.cell? ⟨w.heap.size + 1, 0, none⟩ = some (.string R) := by
   have h := World.cell?_alloc_new (w := w0) #[.string R] 9 0; rw [hz0] at h; rw [hw1]; exact h
  have hR2 := hR1.below hb2'; have hC2 := hC1.below hb2' hC1.lt; have hb2 : Below w.heap.size w w1 := hb1.trans (hb2'.mono (by omega))
  have hT1 := hT.below hb2 hT.pos; have h0w := hT.pos; rw [hz0]; clear hw1 hb2' hR1 hC1 hb1 hz0; have hneq : Sem.run Tryz.prog (binOp .neq 216 (Value.func (Fn.func 212) #[] #[Value.pointer (some { block := w.heap.size + 1, off := 0 })]) Value.nilFunc) w1 = .ok (.bool true) w1 := by rfl
  gi_wp2
  have hwL : g <= w1.heap.size := by omega
  refine wpIn_rangeFunc_ownG rfl (by omega) (gf := 212) (lb := #[.pointer (some ⟨w.heap.size + 1, 0, none⟩)]) rfl trivial (enters_of Tryz.func212 (by kernel_rfl) rfl)
   (uAll_stops 8 (by omega) (w.heap.size + 1) R (by rw [<- bs_length, hRb]; simp; omega) w1 (by omega) hcB hT1) TwoKept.trans (TwoKept.put (w.heap.size + 1) w1 (by omega) (by omega)) (Below.refl _ _) (fun _ => rfl)
   (ScI w g s k l) (ScX w g s k l) (ScI_own w g s k l _ (by omega) hwL) (ScX_own w g s k l _ (by omega) hwL)
   ⟨⟨rfl, hR2, hC2⟩, hb2.mono (by omega)⟩
   (fun x => { tmps := #[.pointer (some ⟨g, 0, none⟩), .pointer (some ⟨w.heap.size, 0, none⟩), .string R, undef, .int .i64 (x.2 : Nat), undef, undef, .pointer (some ⟨g, 0, none⟩), .pointer (some ⟨g, 0, none⟩), .pointer (some ⟨g, 0, none⟩), .string s, .pointer (some ⟨g, 0, none⟩), .pointer (some ⟨g, 0, none⟩), .pointer (some ⟨g, 1, none⟩), .int .i64 (k : Int), .pointer (some ⟨g, 0, none⟩), .pointer (some ⟨g, 0, none⟩), .pointer (some ⟨g, 1, none⟩), .int .i64 (k : Int), .int .i64 ((k : Int) + 4), .pointer (some ⟨g, 0, none⟩), .pointer (some ⟨g, 0, none⟩), .pointer (some ⟨g, 0, none⟩), .string s, .int .i64 (s.size : Int), .int .i64 ((s.size : Int)), .string R, .string R, .func (.func 212) #[] #[.pointer (some ⟨w.heap.size + 1, 0, none⟩)], .int .i64 (x.1 : Nat), .int .i64 (x.2 : Nat), undef, undef, undef, undef, undef, undef, undef, undef, undef, undef, undef, undef, undef, undef, undef, undef, undef, undef, undef, undef], defers := [] }) ?assign ?body ?done ?stop
  case assign =>
   intro l x W K hK
   gi_wp2
   exact hK
  case body =>
   rintro l0 pre x W ⟨⟨rfl, hRW, hCW⟩, hbW⟩ -; have hltW := hRW.lt; have hPX := PutX_any x.2 W; have hplen := putX_len x.2; have hpsz : (strOf (putX x.2)).size = (putX x.2).length := strOf_size _; generalize hpx : putX x.2 = px at *; have HPX := Lib.hid hpx; have HPS := Lib.hid hpsz; clear hpx hpsz; have hcw := hCW.cell 0 _ rfl
   gi_wp2
   refine ⟨trivial, (CallsIn.inRound l0 (callsIn_wide.2 hPX)).mono ?_⟩; rintro e w3 ⟨rfl, hb3⟩; have hz3 := hb3.size; have hR3 := hRW.below hb3; have hC3 := hCW.below hb3 hCW.lt; have hcw3 := hC3.cell 0 _ rfl; have hWS := rWS w3 g s k l (strOf px) hR3 (by rw [HPS.out]; omega)
   gi_wp2
   refine ⟨trivial, (CallsIn.inRound l0 (callsIn_wide.2 hWS)).mono ?_⟩; rintro e w4 ⟨rfl, hR4, hb4, hB4⟩; obtain ⟨cs4, hb4', h54, h64, h74⟩ := id hR4; have c14 := hb4'.cells.cell 1 _ h74; have f14 := hb4'.cells.frozen 1; have hC4 := hB4.cells hC3 (by omega) (by decide)
   have hcw4 := hC4.cell 0 _ rfl; clear hb4' h54 h64 h74; have hR5 := hR4.moved (k + px.length); obtain ⟨cw, hcw', -⟩ := id hRW; have hkeep := keeps_beside (B := w1.heap.size) (((Beside.of_below (E := 5) (g := g) hb3).trans hB4).setCell 1 (.int .i64 ((k + px.length : Nat) : Int))) hcw'.cells; have hbW5 := ((hbW.trans (hb3.mono (by omega))).trans hb4).setCell (p := ⟨g, 1, none⟩) (Nat.le_refl _) (.int .i64 ((k + px.length : Nat) : Int))
   have hl4 := HPS.out
   gi_wp2
   exact ⟨hkeep, ⟨rfl, x, rfl, by rw [HPX.out]; exact hR5⟩, hbW5⟩
  case done =>
   rintro D ys W hD hys ⟨⟨rfl, hRW, hCW⟩, hbW⟩ hK
   have h0 : (oneN ((bs s).drop k)).2 = 0 := by
    rw [<- oneN_take4, <- hRb]; exact Decidable.byContradiction fun hn => by rw [scan_step hRne, if_neg hn] at hys; cases hys
   gi_wp2
   refine ⟨trivial, (callsIn_wide.2 (fail_any 7 W)).mono ?_⟩; rintro e w3 ⟨rfl, rfl⟩
   gi_wp2
   refine ⟨by simp, .inl ⟨_, _, rfl, run_takeDeferred hK, ?_⟩⟩
   exact .inr ⟨h0, rfl, hbW.trans ((belowK_b (w := w) (Nat.le_refl _) W D _ _ (by omega) hK rfl rfl).mono (by omega))⟩
  case stop =>
   rintro D c pre W hD hpre ⟨⟨rfl, x, rfl, hRW⟩, hbW⟩ hK
   have hx : (oneN ((bs s).drop k)).2 ≠ 0 /\ putX x.2 = un (((bs s).drop k).take (oneN ((bs s).drop k)).2) /\ (putX x.2).length = (oneN ((bs s).drop k)).2 := by
    rw [<- oneN_take4, <- hRb]; have hn : (oneN (bs R)).2 ≠ 0 := fun hn => by rw [scan_bad hRne hn] at hpre; simp at hpre
    rw [scan_step hRne, if_neg hn] at hpre; obtain ⟨t, ht⟩ := hpre; simp only [List.cons_append, List.nil_append, List.cons.injEq] at ht; obtain ⟨rfl, -⟩ := ht; obtain ⟨q1, q2, q3, q4⟩ := put_oneN (l := bs R) (c := (oneN (bs R)).1) (n := (oneN (bs R)).2) bs_lt (by rfl) hn
    have e1 : putX (oneN (bs R)).1 = putU (oneN (bs R)).1 := by unfold putX; rw [if_pos q1]
    refine ⟨hn, ?_, ?_⟩
    ·rw [e1]
     show un (putN _) = _; rw [q3, hRb, List.take_take, Nat.min_eq_left (by rw [<- hRb]; exact (oneN_le _ bs_lt).2)]
    ·rw [e1, putU_length, q2]
   gi_wp2
   refine ⟨by simp, .inl ⟨_, _, rfl, run_takeDeferred hK, ?_⟩⟩
   refine ⟨_, results_none rfl _ _ _, .inl ⟨hx.1, rfl, ?_, ?_⟩⟩
   ·have := hRW.kept (grownBy_putObj' W D (.deferred none)) (fun r e => by cases e; exact ⟨_, hK, rfl⟩)
    rw [hx.2.2, hx.2.1] at this; exact this
   ·exact hbW.trans ((belowK_b (w := w) (Nat.le_refl _) W D _ _ (by omega) hK rfl rfl).mono (by omega))
def PartE (g : Nat) (s : ByteArray) (w : World) (k : Nat) (l : List UInt8) (L : List Nat) (e : Ending) (w' : World) : Prop :=
 (L.head? = some 34 /\ OkW g s w (.bool false) (k + 1) l e w') \/
 (L.head? ≠ some 34 /\ (partQ L).2.2 = 0 /\ OkW g s w (.bool true) (k + (partQ L).2.1) (l ++ un (partQ L).1) e w') \/
 (L.head? ≠ some 34 /\ (partQ L).2.2 ≠ 0 /\ BadR g w ((partQ L).2.2 : Nat) e w')
theorem part_any (w : World) (g : Nat) (s : ByteArray) (k : Nat) (l : List UInt8) (h : RdrAt w g s k l) (hk : k <= s.size) (hs : s.size <= 1048576) (hl : l.length <= 9000000) (hT : Tab w) (hg : 1 < g) :
  Calls Tryz.prog 157 #[.pointer (some ⟨g, 0, none⟩)] w (PartE g s w k l ((bs s).drop k)) := by
 cases hq : (bs s).drop k with
 | nil =>
  have hN := fun W h => rnext_nil W g s k l h hk hq (by omega)
  clear hq; go_enter Tryz.func157, Tryz.ntmps157; go_wp2_with fail; refine (hN _ h).mono ?_; rintro e w1 ⟨rfl, hb1⟩; go_wp2; exact ⟨rfl, .inr (.inr ⟨by simp, by simp [partQ, errR], rfl, hb1⟩)⟩
 | cons c r =>
  have hN := fun W h => rnext_cons W g s k l h hq (by omega)
  have hc : c < 256 := bs_lt c (List.mem_of_mem_drop (by rw [hq]; simp))
  obtain ⟨hd1, hd2⟩ := drop_cons hq; rw [bs_length] at hd2
  by_cases h34 : c = 34
  ·subst h34
   clear hq hd1; go_enter Tryz.func157, Tryz.ntmps157; go_wp2_with fail; refine (hN _ h).mono ?_; rintro e w1 ⟨rfl, hR1, hb1, hB1⟩; go_wp2; go_ret; exact .inl ⟨rfl, rfl, hR1, hb1⟩
  have hhd : (c :: r).head? ≠ some 34 := by simpa using h34
  have b34 : ((c : Int) == 34) = false := by rw [beq_eq_false_iff_ne]; omega
  by_cases h92 : c = 92
  ·subst h92
   have hE := fun W h => escape_any W g s k l h (by omega) (by omega) hl
   rw [hd1] at hE; have HC : Hid (partQ (92 :: r) = escQ r) := Lib.hid (by simp [partQ])
   clear hq hd1 hhd h34; go_enter Tryz.func157, Tryz.ntmps157; go_wp2_with fail; refine (hN _ h).mono ?_; rintro e w1 ⟨rfl, hR1, hb1, hB1⟩; go_wp2_with fail; refine (hE _ hR1).mono ?_; rintro e w2 (⟨h0, rfl, hR2, hb2, hB2⟩ | ⟨h0, rfl, hb2⟩)
   ·have H0 := Lib.hid h0
    clear h0; go_wp2; go_ret; exact .inr (.inl ⟨by simp, by rw [HC.out]; exact H0.out, by rw [HC.out]; exact ⟨rfl, hR2, hb1.trans hb2⟩⟩)
   ·have H0 := Lib.hid h0
    clear h0; go_wp2; exact ⟨rfl, .inr (.inr ⟨by simp, by rw [HC.out]; exact H0.out, by rw [HC.out]; exact ⟨rfl, hb1.trans hb2⟩⟩)⟩
  have b92 : ((c : Int) == 92) = false := by rw [beq_eq_false_iff_ne]; omega
  by_cases h32 : c < 32
  ·have HC : Hid (partQ (c :: r) = errR 3) := Lib.hid (by simp [partQ, h32])
   have HH := Lib.hid hhd; clear hq hd1 hhd h34 h92; go_enter Tryz.func157, Tryz.ntmps157; go_wp2_with fail; refine (hN _ h).mono ?_; rintro e w1 ⟨rfl, hR1, hb1, hB1⟩; go_wp2_with fail; refine (fail_any 3 _).mono ?_; rintro e w2 ⟨rfl, rfl⟩; go_wp2; exact ⟨rfl, .inr (.inr ⟨HH.out, by rw [HC.out]; simp [errR], by rw [HC.out]; exact ⟨rfl, hb1⟩⟩)⟩
  by_cases h128 : c < 128
  ·have HC : Hid (partQ (c :: r) = ([c], 1, 0)) := Lib.hid (by
    simp only [partQ]; rw [if_neg h32, if_neg h92]
    simp [oneN, h128])
   have HH := Lib.hid hhd; clear hq hd1 hhd h34 h92; have h32' : 32 <= c := by omega
   clear h32; go_enter Tryz.func157, Tryz.ntmps157; go_wp2_with fail; refine (hN _ h).mono ?_; rintro e w1 ⟨rfl, hR1, hb1, hB1⟩; go_wp2_with fail; refine (rWB w1 g s _ l c _ rfl (by omega) hR1 (by omega)).mono ?_
   rintro e w2 ⟨rfl, hR2, hb2, hB2⟩; go_wp2; go_ret; exact .inr (.inl ⟨HH.out, by rw [HC.out], by rw [HC.out]; exact ⟨rfl, hR2, hb1.trans hb2⟩⟩)
  ·have HC : Hid (partQ (c :: r) = if (oneN (c :: r)).2 = 0 then errR 7 else ((c :: r).take (oneN (c :: r)).2, (oneN (c :: r)).2, 0)) := Lib.hid (by
    simp only [partQ]
    rw [if_neg h32, if_neg h92])
   have hS := fun W h hT => scalar_any W g s k l h (by omega) hs hl hT
   rw [hq] at hS; generalize hcr : c :: r = cr at *; have HH := Lib.hid hhd; clear hq hd1 hhd h34 h92 hcr; have h32' : 128 <= c := by omega
   clear h32 h128; go_enter Tryz.func157, Tryz.ntmps157; go_wp2_with fail; refine (hN _ h).mono ?_; rintro e w1 ⟨rfl, hR1, hb1, hB1⟩; have hR2 := hR1.moved k; have hT2 := hT.below (hb1.trans (below_moved g (.int .i64 (k : Int)))) hg; obtain ⟨cs, hbl, h5, h6, h7⟩ := id hR1; have c1 := hbl.cells.cell 1 _ h7; have f1 := hbl.cells.frozen 1; clear hbl h5 h6 h7; go_wp2_with fail; refine (hS _ hR2 hT2).mono ?_; rintro e w2 (⟨h0, rfl, hR3, hb3⟩ | ⟨h0, rfl, hb3⟩)
   ·have H0 := Lib.hid h0
    clear h0; go_wp2; go_ret; exact .inr (.inl ⟨HH.out, by rw [HC.out, if_neg H0.out], by rw [HC.out, if_neg H0.out]; exact ⟨rfl, hR3, (hb1.trans (below_moved g _)).trans hb3⟩⟩)
   ·have H0 := Lib.hid h0
    clear h0; go_wp2; exact ⟨rfl, .inr (.inr ⟨HH.out, by rw [HC.out, if_pos H0.out]; simp [errR], by rw [HC.out, if_pos H0.out]; exact ⟨rfl, (hb1.trans (below_moved g _)).trans hb3⟩⟩)⟩
theorem Tryz.asFail (v : Value) (w : World) : (Instr.typeAssert (.iface 176 v) 20 176 true).run Tryz.prog w = .ok (.tuple #[v, .bool true]) w := by kernel_rfl
theorem catch_panicking (b0 b1 b2 : Nat) (v0 v1 v2 : Value) (n : Int) (older : List PanicEntry) (w : World) (h0 : Cells w b0 #[v0] 9) (h1 : Cells w b1 #[v1] 3) (h2 : Cells w b2 #[v2] 26) (h01 : b0 < b1) (h12 : b1 < b2) :
  CallsD Tryz.prog 154 #[.pointer (some ⟨b0, 0, none⟩), .pointer (some ⟨b1, 0, none⟩), .pointer (some ⟨b2, 0, none⟩)] (.panicking ({ v := failV n, recovered := false } :: older)) w fun e u' w' =>
   e = .returned (.tuple #[]) /\ u' = .panicking ({ v := failV n, recovered := true } :: older) /\ Cells w' b0 #[.string ⟨#[]⟩] 9 /\ Cells w' b1 #[.int .i64 0] 3 /\ Cells w' b2 #[.int .i64 n] 26 /\ Below b0 w w' := by
 refine callsD_of_wpS Tryz.func154 rfl fun c₀ cs hu => ?_; apply wpS_seq
 apply wpS_region
 simp [wpOpsS, go_sem, recoverD, hu, Tryz.ntmps154, Exit.thenS]
 refine wpS_of_wp ?_; rw [show (#[Value.pointer (some ⟨b0, 0, none⟩), .pointer (some ⟨b1, 0, none⟩), .pointer (some ⟨b2, 0, none⟩)] ++ ((Array.replicate 16 undef).setIfInBounds 3 (failV n)).setIfInBounds 0 (failV n)) = #[Value.pointer (some ⟨b0, 0, none⟩), .pointer (some ⟨b1, 0, none⟩), .pointer (some ⟨b2, 0, none⟩), failV n, undef, undef, failV n, undef, undef, undef, undef, undef, undef, undef, undef, undef, undef, undef, undef] from rfl]; have has := Tryz.asFail; have hx := Cells.new w #[.int .i64 n] 176; have hxc := hx.cell 0 _ rfl; have k0 := (h0.alloc (.cells #[.int .i64 n] 176)); have k1 := (h1.alloc (.cells #[.int .i64 n] 176)); have k2 := (h2.alloc (.cells #[.int .i64 n] 176)); have k0c := k0.cell 0 _ rfl; have k0f := k0.frozen 0; have k1c := k1.cell 0 _ rfl; have k1f := k1.frozen 0; have k2c := k2.cell 0 _ rfl; have k2f := k2.frozen 0; have n01 : ¬ b0 = b1 := by omega
 have n10 : ¬ b1 = b0 := by omega
 have n02 : ¬ b0 = b2 := by omega
 have n20 : ¬ b2 = b0 := by omega
 have n12 : ¬ b1 = b2 := by omega
 have n21 : ¬ b2 = b1 := by omega
 have l0 := h0.lt; have l1 := h1.lt; have l2 := h2.lt; clear h0 h1 h2; go_wp2; have x0 : ¬ w.heap.size = b0 := by omega
 have x1 : ¬ w.heap.size = b1 := by omega
 have x2 : ¬ w.heap.size = b2 := by omega
 have y0 : ¬ b0 = w.heap.size := by omega
 have y1 : ¬ b1 = w.heap.size := by omega
 have y2 : ¬ b2 = w.heap.size := by omega
 have hb : Below b0 w (w.alloc (.cells #[.int .i64 n] 176)) := (Below.refl b0 w).alloc (Nat.le_of_lt l0) _; have H01 := Lib.hid (show b0 <= b1 /\ b0 <= b2 by omega)
 clear l0 l1 l2 h01 h12; generalize w.alloc (.cells #[.int .i64 n] 176) = W0 at *; generalize w.heap.size = X at *; go_region
 have r0 := ((k0.set 0 (by simp) (.string ⟨#[]⟩)).setOther ⟨b1, 0, none⟩ (.int .i64 0) (by simpa using n10)).setOther ⟨b2, 0, none⟩ (.int .i64 n) (by simpa using n20)
 have r1 := ((k1.setOther ⟨b0, 0, none⟩ (.string ⟨#[]⟩) (by simpa using n01)).set 0 (by simp) (.int .i64 0)).setOther ⟨b2, 0, none⟩ (.int .i64 n) (by simpa using n21)
 have r2 := ((k2.setOther ⟨b0, 0, none⟩ (.string ⟨#[]⟩) (by simpa using n02)).setOther ⟨b1, 0, none⟩ (.int .i64 0) (by simpa using n12)).set 0 (by simp) (.int .i64 n)
 clear k0 k1 k2 k0c k0f k1c k1f k2c k2f has; cases c₀
 exact ⟨rfl, _, rfl, _, results_none rfl _ _ _, rfl, rfl, r0, r1, r2, (((hb.setCell (p := ⟨b0, 0, none⟩) (Nat.le_refl _) _).setCell (p := ⟨b1, 0, none⟩) H01.out.1 _).setCell (p := ⟨b2, 0, none⟩) H01.out.2 _).drew⟩
theorem catch_idle (p q r : Value) (w : World) :
  CallsD Tryz.prog 154 #[p, q, r] .returning w fun e u' w' => e = .returned (.tuple #[]) /\ u' = .returning /\ w' = w := by
 refine callsD_of_wpS Tryz.func154 rfl fun c₀ cs hu => ?_; apply wpS_seq
 apply wpS_region
 simp [wpOpsS, go_sem, recoverD, hu, Tryz.ntmps154, Exit.thenS]
 refine wpS_of_wp ?_; rw [show (#[p, q, r] ++ ((Array.replicate 16 undef).setIfInBounds 3 Value.nilIface).setIfInBounds 0 Value.nilIface) = #[p, q, r, Value.nilIface, undef, undef, Value.nilIface, undef, undef, undef, undef, undef, undef, undef, undef, undef, undef, undef, undef] from rfl]; go_wp2; cases c₀
 simp_all [bodyPostS, results, Tryz.results154]
end Go.Proofs.YtbcdaaobbebooaaGreatDoor
