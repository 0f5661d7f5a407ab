/- Texts of this claim, one behind the other: Bld, UtfA, UtfB, UtfC, UtfD, QuoA, QuoB, QuoC, UtfG, UtfH, UtfI, UtfK, QuoD, QuoE, QuoF, QuoG, ExD, ExE, ExF, ExG. -/
import Derived.Test.YtbcdaaobbebooaaGreatDoorLga
import Derived.Lib.Builder
import Derived.Lib.AppendStr
import Derived.Lib.UnsafeStr
import Derived.Laws.Externs
import Derived.Test.YtbcdaaobbebooaaGreatDoorRows
import Derived.Laws.BitsAllLaws
import Derived.Laws.IdiomStrings
import Derived.Deep.QuietTactic
import Derived.BigQuiet
import Derived.RangeFuncNested
import Derived.RangeFuncBound
import Derived.RangeFuncBox
import Derived.RangeFuncCalls
import Derived.RangeFuncLeaves
import Derived.Shelf.Abstract
import Derived.Shelf.RegionOpen
import Derived.WalkKit
import Derived.OwnWalkIn
import Derived.TacticsInMore
import Derived.LoopNIn
import Derived.LoopIn
import Derived.Maps.AppendAt
import Derived.Sort.QuietIn
import Derived.RegionIn
import Derived.Defers
import Derived.Recover
import Derived.Deep.RegionHeld3
set_option linter.unusedSimpArgs false
set_option linter.unusedVariables false
namespace Go.Proofs.YtbcdaaobbebooaaGreatDoor
set_option maxRecDepth 100000
set_option maxHeartbeats 20000000
open Go.RowKit Go.Tab
abbrev OwnU := OwnOf byteV 5
theorem Tryz.uPB : Tryz.prog.underlying 66 = some (.pointer 69) := by kernel_rfl
theorem Tryz.uUP : Tryz.prog.underlying 200 = some .unsafePointer := by kernel_rfl
theorem Tryz.uBytes : Tryz.prog.underlying 67 = some (.slice 5) := by kernel_rfl
theorem Tryz.uStr : Tryz.prog.underlying 9 = some .string := by kernel_rfl
theorem Tryz.infoU8 : (Tryz.prog.info? 5).map (fun i => (i.zero, i.size, i.bytes)) = some (some (.int .u8 0), 1, 1) := by kernel_rfl
theorem Tryz.sizeBld : (Tryz.prog.info? 69).map (·.size) = some 2 := by kernel_rfl
theorem Tryz.cellsU8 : Tryz.prog.cellsOf 5 = 1 := by kernel_rfl
theorem oneU (x : UInt8) : (byteV x).oneCell' = true := rfl
theorem lit_one (w : World) (c : UInt8) (n : Int) (hn : n = (c.toNat : Int)) (t : TypeId) : RowOf byteV (w.alloc (.cells #[.int .u8 n] t)) (.slice (some ⟨w.heap.size, 0, none⟩) 1 1) [c] := by
 refine ⟨_, 1, rfl, Nat.le_refl _, by decide, (fun h => by cases h), fun x hx _ => ?_⟩; cases hx
 subst hn; refine ⟨rfl, by simp, fun j hj => ?_⟩; obtain rfl : j = 0 := by simpa using hj
 rw [World.cell?_alloc_new]; rfl
structure Bld (T : TypeId) (base : Nat) (w : World) (g o : Nat) (cs : Array Value) (l : List UInt8) : Prop where
 cells : Cells w g cs T
 addr : cs[o]? = some (.pointer none) \/ cs[o]? = some (.pointer (some ⟨g, o, none⟩))
 buf : ∃ v, cs[o + 1]? = some v /\ OwnU base w v l
structure BldIn (T : TypeId) (n o : Nat) : Prop where
 ne : T ≠ 5
 lies : liesAt Tryz.prog Tryz.prog.depth T (n / Tryz.prog.cellsOf T) o 69 1 = true
 lt : o + 1 < n
def Used (g o : Nat) (cs cs' : Array Value) : Prop := cs'.size = cs.size /\ (∀ j, j ≠ o -> j ≠ o + 1 -> cs'[j]? = cs[j]?) /\ cs'[o]? = some (.pointer (some ⟨g, o, none⟩))
theorem copyCheck_any {T : TypeId} {base g o : Nat} {cs : Array Value} {l : List UInt8} (w : World) (h : Bld T base w g o cs l) (hI : BldIn T cs.size o) (hg : base <= g) :
  Calls Tryz.prog 147 #[.pointer (some ⟨g, o, none⟩)] w fun e w' => e = .returned (.tuple #[]) /\ ∃ cs', Bld T base w' g o cs' l /\ Used g o cs cs' /\ (∀ v, cs[o + 1]? = some v -> cs'[o + 1]? = some v) /\ w.grownBy w' (some g) := by
 obtain ⟨hc, ha, v, hv, hown⟩ := h; obtain ⟨j, hj, hjs⟩ := Option.map_eq_some_iff.1 Tryz.sizeBld; rcases ha with ha | ha
 ·have h0 := hc.cell o _ ha
  have hf := hc.frozen o; have hsh := hc.shape; have hlt := hI.lt; have hu1 := Lib.run_to_unsafe w ⟨g, o, none⟩ Tryz.uPB Tryz.uUP hj (by rw [hjs]; decide) hsh (by show o < cs.size; omega); have hu2 := Lib.run_from_unsafe w ⟨g, o, none⟩ Tryz.uUP Tryz.uPB hj hsh hI.lies; go_enter Tryz.func147, Tryz.ntmps147; go_wp2; rw [run_callFunc_extern Tryz.func173 (by kernel_rfl) (by kernel_rfl) (by kernel_rfl) (e := Extern.AbiNoEscape.same) (by kernel_rfl)]; rw [Lib.run_noEscape]; simp only [Result.andThen]; rw [Oper.upon_value]; go_wp2; go_end0
  have hgs := grownBy_setAt w g o (.pointer (some ⟨g, o, none⟩)); refine ⟨rfl, _, ⟨hc.set o (by omega) _, .inr (by simp), v, by rw [Array.getElem?_set_ne (by omega) (by omega)]; exact hv, hown.kept hgs (.inr (own_ne_box hown hc hI.ne))⟩, ⟨by simp, fun k h1 _ => by rw [Array.getElem?_set_ne (by omega) (fun e => h1 e.symm)], by simp⟩, fun u hu => by rw [Array.getElem?_set_ne (by omega) (by omega)]; exact hu, hgs⟩
 ·have h0 := hc.cell o _ ha
  have hnq := Lib.run_neq_ptr_same w ⟨g, o, none⟩ Tryz.uPB hj; go_enter Tryz.func147, Tryz.ntmps147; go_wp2; go_end0
  exact ⟨rfl, cs, ⟨hc, .inr ha, v, hv, hown⟩, ⟨rfl, fun _ _ _ => rfl, ha⟩, fun _ h => h, World.grownBy.refl _ _⟩
theorem Used.trans {g o : Nat} {a b c : Array Value} (h : Used g o a b) (h2 : Used g o b c) : Used g o a c :=
 ⟨h2.1.trans h.1, fun j h3 h4 => (h2.2.1 j h3 h4).trans (h.2.1 j h3 h4), h2.2.2⟩
theorem Bld.put {T : TypeId} {base g o : Nat} {cs : Array Value} {l' : List UInt8} {w : World} {v' : Value} (h : Cells w g cs T) (hI : BldIn T cs.size o) (ha : cs[o]? = some (.pointer (some ⟨g, o, none⟩))) (hown : OwnU base w v' l') :
  ∃ cs', Bld T base (w.setCell ⟨g, o + 1, none⟩ v') g o cs' l' /\ Used g o cs cs' := by
 have hlt := hI.lt; refine ⟨_, ⟨h.set (o + 1) hlt v', .inr (by rw [Array.getElem?_set_ne hlt (by omega)]; exact ha), v', by simp, hown.setOther _ _ (fun e => own_ne_box hown h hI.ne e)⟩, by simp, fun j h1 h2 => by rw [Array.getElem?_set_ne hlt (fun e => h2 e.symm)], by rw [Array.getElem?_set_ne hlt (by omega)]; exact ha⟩
theorem WriteByte_any {T : TypeId} {base g o : Nat} {cs : Array Value} {l : List UInt8} (w : World) (c : UInt8) (n : Int) (hn : n = (c.toNat : Int)) (h : Bld T base w g o cs l) (hI : BldIn T cs.size o) (hg : base <= g) (hlen : l.length <= 1000000000) :
  Calls Tryz.prog 183 #[.pointer (some ⟨g, o, none⟩), .int .u8 n] w fun e w' => e = .returned .nilIface /\ ∃ cs', Bld T base w' g o cs' (l ++ [c]) /\ Used g o cs cs' /\ Below base w w' /\ Beside 5 g w w' := by
 have hb0 : base <= w.heap.size := by have := h.cells.lt; omega
 subst hn; go_enter Tryz.func183, Tryz.ntmps183; go_wp2_with fail; refine (copyCheck_any w h hI hg).mono ?_; rintro e w1 ⟨rfl, cs1, h1, hU, hbuf, hg1⟩; have hb1 : Below base w w1 := grown_below hg1 hb0 (fun k hk => by cases hk; exact hg); have hz1 := hg1.size; obtain ⟨hc1, ha1, v, hv, hown⟩ := h1; have hk1 := hc1.cell (o + 1) _ hv; go_wp2_with (with_reducible first | refine stop_append ?_ | refine stop_make ?_ | refine stop_slice ?_ | refine stop_copy ?_); refine Stop.out ?_
 refine wpList_append_row (f := byteV) rfl _ _ 67 rfl base 5 1 _ Tryz.uBytes Tryz.infoU8 rfl oneU l [c] (by exact hown.alloc _) (by exact lit_one w1 c _ rfl _) (by unfold maxLen; simp; omega) (by simp; omega) (by simp; omega) w (by exact hb1.alloc (by omega) _) ?_; intro v2 w2 ho2 hb2 hg2; obtain ⟨a2, n2, c2, rfl, -⟩ := ho2.row.shape; have hc2 := (hc1.alloc (.cells #[.int .u8 (c.toNat : Int)] 5)).kept hg2 (fun e => (own_ne_box hown hc1 (by exact hI.ne)) e.symm); have hB2 : Beside 5 g w w2 := (((Beside.refl.grown hg1 (fun k hk => .inl (by cases hk; rfl))).alloc (.cells #[.int .u8 (c.toNat : Int)] 5)).grown hg2 (fun k hk => .inr (own_is_row (hown.alloc (.cells #[.int .u8 (c.toNat : Int)] 5)) k hk))); have hf2 := hc2.frozen (o + 1); have hd2 := hc2.cell (o + 1) _ hv; have hsz : cs1.size = cs.size := hU.1; obtain ⟨cs3, h3, hU3⟩ := Bld.put hc2 (by rw [hsz]; exact hI) hU.2.2 ho2; have hb3 := hb2.setCell (p := ⟨g, o + 1, none⟩) hg (.slice a2 n2 c2); have hB3 := hB2.setCell (o + 1) (.slice a2 n2 c2); clear hB2; go_wp2; go_ret; exact ⟨rfl, cs3, h3, hU.trans hU3, hb3, hB3⟩
theorem wpList_append_str {P : Program} {w : World} {ops : Array Oper} {rest : List Oper} {o : Oper} {a : Act} {Q : Exit -> Act -> World -> Prop} (hgd : o.guard = none) (sl x : Operand) (t u : TypeId)
  (ho : o.op = .call { callee := .builtin .append, args := #[sl, x], argTypes := #[t, u] }) (base : Nat) (e : TypeId) (ht : P.underlying t = some (.slice e)) (hu : P.underlying u = some .string)
  (hi : (P.info? e).map (fun i => (i.zero, i.size, i.bytes)) = some (some (.int .u8 0), 1, 1)) (l : List UInt8) (hown : OwnOf byteV e base w (a.eval sl) l) (s : ByteArray) (hx : a.eval x = .string s)
  (hlen : l.length + s.size <= 2000000000) (hbase : base <= w.heap.size) (w0 : World) (hb : Below base w0 w)
  (hK : ∀ v' w', OwnOf byteV e base w' v' (l ++ s.data.toList) -> Below base w0 w' -> w.grownBy w' (a.eval sl).ownBlock -> wpList P ops Q rest (a.put o.dst v') w') : wpList P ops Q (o :: rest) a w := by
 obtain ⟨i, hi1, hi2, hi3, hi4⟩ := info_parts hi; refine Lib.wpList_append_own_string w hgd sl x t u ho base e i ht hu hi1 hi2 hi3 hi4 (a.eval sl) l.length (l.map byteV) rfl hown s hx (by unfold maxLen; omega) (by omega) hbase ?_; intro v' w' hown' hg _; refine hK v' w' ?_ (hb.trans (grown_below hg hbase (fun k hk => (World.ownsRow.lt hown k hk).1))) hg; unfold OwnOf; rw [show (l ++ s.data.toList).length = l.length + s.size by rw [List.length_append]; rfl, List.map_append]; exact hown'
theorem WriteString_any {T : TypeId} {base g o : Nat} {cs : Array Value} {l : List UInt8} (w : World) (s : ByteArray) (h : Bld T base w g o cs l) (hI : BldIn T cs.size o) (hg : base <= g) (hlen : l.length + s.size <= 1000000000) :
  Calls Tryz.prog 113 #[.pointer (some ⟨g, o, none⟩), .string s] w fun e w' => e = .returned (.tuple #[.int .i64 s.size, .nilIface]) /\ ∃ cs', Bld T base w' g o cs' (l ++ s.data.toList) /\ Used g o cs cs' /\ Below base w w' /\ Beside 5 g w w' := by
 have hb0 : base <= w.heap.size := by have := h.cells.lt; omega
 go_enter Tryz.func113, Tryz.ntmps113; go_wp2_with fail; refine (copyCheck_any w h hI hg).mono ?_; rintro e w1 ⟨rfl, cs1, h1, hU, hbuf, hg1⟩; have hb1 : Below base w w1 := grown_below hg1 hb0 (fun k hk => by cases hk; exact hg); have hz1 := hg1.size; obtain ⟨hc1, ha1, v, hv, hown⟩ := h1; have hk1 := hc1.cell (o + 1) _ hv; go_wp2_with (with_reducible first | refine stop_append ?_ | refine stop_make ?_ | refine stop_slice ?_ | refine stop_copy ?_); refine Stop.out ?_
 refine wpList_append_str rfl _ _ 67 9 rfl base 5 Tryz.uBytes Tryz.uStr Tryz.infoU8 l (by exact hown) s rfl (by omega) (by omega) w (by exact hb1) ?_; intro v2 w2 ho2 hb2 hg2; obtain ⟨a2, n2, c2, rfl, -⟩ := ho2.row.shape; have hc2 := hc1.kept hg2 (fun e => (own_ne_box hown hc1 (by exact hI.ne)) e.symm); have hB2 : Beside 5 g w w2 := ((Beside.refl.grown hg1 (fun k hk => .inl (by cases hk; rfl))).grown hg2 (fun k hk => .inr (own_is_row hown k hk))); have hf2 := hc2.frozen (o + 1); have hd2 := hc2.cell (o + 1) _ hv; have hsz : cs1.size = cs.size := hU.1; obtain ⟨cs3, h3, hU3⟩ := Bld.put hc2 (by rw [hsz]; exact hI) hU.2.2 ho2; have hb3 := hb2.setCell (p := ⟨g, o + 1, none⟩) hg (.slice a2 n2 c2); have hB3 := hB2.setCell (o + 1) (.slice a2 n2 c2); clear hB2; go_wp2; go_ret2
 exact ⟨rfl, cs3, h3, hU.trans hU3, hb3, hB3⟩
theorem Tryz.uPU8 : Tryz.prog.underlying 111 = some (.pointer 5) := by kernel_rfl
theorem freeze_other (w : World) (p : Addr) (n k : Nat) (hk : k ≠ p.block) : (w.freeze p n).heap[k]? = w.heap[k]? := by
 unfold World.freeze; split
 ·rfl
 ·simp only [Array.getElem?_modify]
  rw [if_neg (fun e => hk e.symm)]
theorem String_any {T : TypeId} {base g o : Nat} {cs : Array Value} {l : List UInt8} (w : World) (h : Bld T base w g o cs l) (hg : base <= w.heap.size) (hlen : l.length <= 1000000000) :
  Calls Tryz.prog 43 #[.pointer (some ⟨g, o, none⟩)] w fun e w' => e = .returned (.string ⟨l.toArray⟩) /\ Below base w w' /\ ∀ k o', k < w.heap.size -> w.heap[k]? = some o' -> (∀ cs fr, o' ≠ .cells cs 5 fr) -> w'.heap[k]? = some o' := by
 obtain ⟨hc, ha, v, hv, hown⟩ := h; have hUS : ∀ (W : World) (q : Option Addr), (Builtin.unsafeString_ #[111, 3] 9 #[.pointer q, .int .i64 0]).run Tryz.prog W = .ok (.string .empty) W := fun W q => Lib.run_unsafeString_none W _ _ _ q; have c1 := hc.drew.cell (o + 1) _ hv; rcases hown.2 with ⟨rfl, hl⟩ | ⟨b, cap, cur, rfl, hbb, hb, hnc, hcm, hcs, htake⟩
 ·have hl0 : l = [] := List.eq_nil_of_length_eq_zero hl
  subst hl0; have hSD : (Builtin.unsafeSliceData_ #[67] 111 #[.slice none 0 0]).run Tryz.prog w.drew = .ok (.pointer none) w.drew := rfl; go_enter Tryz.func43, Tryz.ntmps43; go_wp2; go_region
  all_goals (go_wp2; go_ret; exact ⟨rfl, Below.drew (Below.refl base w), fun k o' _ h _ => h⟩)
 ·by_cases hl0 : l = []
  ·subst hl0
   clear hown htake
   by_cases hcap : cap = 0
   ·subst hcap
    have hSD : (Builtin.unsafeSliceData_ #[67] 111 #[.slice (some ⟨b, 0, none⟩) 0 0]).run Tryz.prog w.drew = .ok (.pointer (some ⟨w.drew.heap.size, 0, none⟩)) (w.drew.alloc (.view ⟨b, 0, none⟩ 5)) :=
     Lib.run_unsafeSliceData_zero w.drew _ _ 5 Tryz.uPU8 ⟨b, 0, none⟩ 0 (5, cur.size) (by have hg' : w.drew.heap[b]? = some (.cells cur 5 (0, 0)) := hb; simp [World.shape?, hg'])
    have c2 := (hc.drew.alloc (.view ⟨b, 0, none⟩ 5)).cell (o + 1) _ hv; have c3 : (w.alloc (.view ⟨b, 0, none⟩ 5)).drew.cell? ⟨g, o + 1, none⟩ = some (.slice (some ⟨b, 0, none⟩) 0 0) := c2; have c4 := hc.cell (o + 1) _ hv; simp only [List.length_nil] at c1 c2 c3 c4; go_enter Tryz.func43, Tryz.ntmps43; go_wp2; go_region
    all_goals
     go_wp2; go_ret; exact ⟨rfl, (Below.drew (Below.refl base w)).alloc hg _, fun k o' hk h _ => ((World.grownBy_alloc w.drew (.view ⟨b, 0, none⟩ 5) none).block k hk (by simp)).trans h⟩
   ·have hSD : (Builtin.unsafeSliceData_ #[67] 111 #[.slice (some ⟨b, 0, none⟩) 0 cap]).run Tryz.prog w.drew = .ok (.pointer (some ⟨b, 0, none⟩)) w.drew := Lib.run_unsafeSliceData_row _ _ _ _ _ _ hcap
    simp only [List.length_nil] at c1; clear hcap; go_enter Tryz.func43, Tryz.ntmps43; go_wp2; go_region
    all_goals (go_wp2; go_ret; exact ⟨rfl, Below.drew (Below.refl base w), fun k o' _ h _ => h⟩)
  ·have hl1 : l.length ≠ 0 := by simpa using hl0
   have hSD : (Builtin.unsafeSliceData_ #[67] 111 #[.slice (some ⟨b, 0, none⟩) l.length cap]).run Tryz.prog w.drew = .ok (.pointer (some ⟨b, 0, none⟩)) w.drew := Lib.run_unsafeSliceData_row _ _ _ _ _ _ (by omega)
   have hUS2 : (Builtin.unsafeString_ #[111, 3] 9 #[.pointer (some ⟨b, 0, none⟩), .int .i64 l.length]).run Tryz.prog w.drew = .ok (.string ⟨l.toArray⟩) (w.drew.freeze ⟨b, 0, none⟩ l.length) := by
    refine Lib.run_unsafeString_row w.drew 111 3 9 5 Tryz.uPU8 Tryz.cellsU8 b cur.size (by have hg' : w.drew.heap[b]? = some (.cells cur 5 (0, 0)) := hb; simp [World.shape?, hg']) l hl0 (by omega) (by omega) ?_; intro j x hx; obtain ⟨hj, rfl⟩ := List.getElem?_eq_some_iff.1 hx; have := hown.cellAt j hj; rw [Addr.add_lit, Nat.zero_add]; exact this
   clear hown htake hl0 hl1; go_enter Tryz.func43, Tryz.ntmps43; go_wp2; go_region
   all_goals
    go_wp2; go_ret; refine ⟨rfl, Lib.below_freeze (Below.drew (Below.refl base w)) (p := ⟨b, 0, none⟩) hbb _, fun k o' _ h hn => ?_⟩; rw [freeze_other _ _ _ _ (by rintro rfl; rw [hb] at h; cases h; exact hn _ _ rfl)]; exact h
def Tab (w : World) : Prop := ∀ j : Nat, j < 32 -> w.cell? ⟨1, j, none⟩ = some (.int .i64 (sizeOf8 (8 * j) : Nat))
theorem Tab.below {w w' : World} {B : Nat} (h : Tab w) (hb : Below B w w') (hB : 1 < B) : Tab w' := fun j hj => (hb.cell hB).trans (h j hj)
theorem Tab.pos {w : World} (h : Tab w) : 1 < w.heap.size := World.block_lt_of_cell? w _ (h 0 (by decide))
theorem size_same (a : Nat) : sizeOf8 (8 * (a / 8)) = sizeOf8 a := by
 unfold sizeOf8; have h1 : 8 * (a / 8) < 128 ↔ a < 128 := by omega
 have h2 : 8 * (a / 8) < 192 ↔ a < 192 := by omega
 have h3 : 8 * (a / 8) < 224 ↔ a < 224 := by omega
 have h4 : 8 * (a / 8) < 240 ↔ a < 240 := by omega
 have h5 : 8 * (a / 8) < 248 ↔ a < 248 := by omega
 simp only [h1, h2, h3, h4, h5]
theorem i64_and_nat (a b : Nat) (ha : a < 4611686018427387904) (hb : b < 4611686018427387904) : bits .and .i64 (a : Int) (b : Int) = ((a &&& b : Nat) : Int) := by
 have hx : a &&& b < 2 ^ 62 := Nat.and_lt_two_pow _ (by omega); have e1 : (BitVec.ofInt 64 (a : Int)).toNat = a := by rw [BitVec.ofInt_natCast, BitVec.toNat_ofNat]; exact Nat.mod_eq_of_lt (by omega)
 have e2 : (BitVec.ofInt 64 (b : Int)).toNat = b := by rw [BitVec.ofInt_natCast, BitVec.toNat_ofNat]; exact Nat.mod_eq_of_lt (by omega)
 show IntKind.i64.wrap ((BitVec.ofInt 64 (a : Int) &&& BitVec.ofInt 64 (b : Int)).toNat : Int) = _; rw [BitVec.toNat_and, e1, e2, IntKind.wrap_i64]; omega
theorem i64_or_nat (a b : Nat) (ha : a < 4611686018427387904) (hb : b < 4611686018427387904) : bits .or .i64 (a : Int) (b : Int) = ((a ||| b : Nat) : Int) := by
 have hx : a ||| b < 2 ^ 62 := Nat.or_lt_two_pow (by omega) (by omega)
 have e1 : (BitVec.ofInt 64 (a : Int)).toNat = a := by rw [BitVec.ofInt_natCast, BitVec.toNat_ofNat]; exact Nat.mod_eq_of_lt (by omega)
 have e2 : (BitVec.ofInt 64 (b : Int)).toNat = b := by rw [BitVec.ofInt_natCast, BitVec.toNat_ofNat]; exact Nat.mod_eq_of_lt (by omega)
 show IntKind.i64.wrap ((BitVec.ofInt 64 (a : Int) ||| BitVec.ofInt 64 (b : Int)).toNat : Int) = _; rw [BitVec.toNat_or, e1, e2, IntKind.wrap_i64]; omega
theorem and_mask (a k : Nat) : a &&& (2 ^ k - 1) = a % 2 ^ k := Nat.and_two_pow_sub_one_eq_mod a k
theorem and31 (a : Nat) (h : a < 256) : bits .and .i64 (a : Int) 31 = ((a % 32 : Nat) : Int) := by
 have := i64_and_nat a 31 (by omega) (by omega); rw [show 31 = 2 ^ 5 - 1 by rfl, and_mask] at this; simpa using this
theorem and15 (a : Nat) (h : a < 256) : bits .and .i64 (a : Int) 15 = ((a % 16 : Nat) : Int) := by
 have := i64_and_nat a 15 (by omega) (by omega); rw [show 15 = 2 ^ 4 - 1 by rfl, and_mask] at this; simpa using this
theorem and7 (a : Nat) (h : a < 256) : bits .and .i64 (a : Int) 7 = ((a % 8 : Nat) : Int) := by
 have := i64_and_nat a 7 (by omega) (by omega); rw [show 7 = 2 ^ 3 - 1 by rfl, and_mask] at this; simpa using this
theorem and63 (a : Nat) (h : a < 4611686018427387904) : bits .and .i64 (a : Int) 63 = ((a % 64 : Nat) : Int) := by
 have := i64_and_nat a 63 h (by omega); rw [show 63 = 2 ^ 6 - 1 by rfl, and_mask] at this; simpa using this
theorem and192 (a : Nat) (h : a < 256) : bits .and .i64 (a : Int) 192 = ((a / 64 * 64 : Nat) : Int) := by
 have := i64_and_nat a 192 (by omega) (by omega); have h2 : ∀ a : Fin 256, a.val &&& 192 = a.val / 64 * 64 := by decide +kernel
 rw [show a &&& 192 = a / 64 * 64 from h2 ⟨a, h⟩] at this
 simpa using this
theorem or64 (a b : Nat) (h : a < 16777216) (hb : b < 64) : bits .or .i64 ((a : Int) * 64) (b : Int) = ((a * 64 + b : Nat) : Int) := by
 have := i64_or_nat (a * 64) b (by omega) (by omega); have h7 := Nat.two_pow_add_eq_or_of_lt (i := 6) (b := b) (by omega) a; rw [show 2 ^ 6 * a = a * 64 by omega] at h7; rw [<- h7] at this
 simpa using this
def isScI (c : Int) : Bool := decide (0 <= c) && decide (c <= 1114111) && (decide (c < 55296) || decide (57343 < c))
theorem isScI_nat (c : Nat) : isScI (c : Int) = isSc c := by
 unfold isScI isSc; have e1 : decide (0 <= (c : Int)) = true := by simp
 have e2 : decide ((c : Int) <= 1114111) = decide (c <= 1114111) := by simp only [decide_eq_decide]; omega
 have e3 : decide ((c : Int) < 55296) = decide (c < 55296) := by simp only [decide_eq_decide]; omega
 have e4 : decide (57343 < (c : Int)) = decide (57343 < c) := by simp only [decide_eq_decide]; omega
 rw [e1, e2, e3, e4]; simp
theorem isScalar_any (c : Int) (w : World) : Calls Tryz.prog 168 #[.int .i64 c] w fun e w' => e = .returned (.bool (isScI c)) /\ w = w' := by
 unfold isScI
 by_cases h0 : 0 <= c
 ·by_cases h1 : c <= 1114111
  ·by_cases h2 : c < 55296
   ·go_enter Tryz.func168, Tryz.ntmps168
    go_wp2; go_ret; exact ⟨ret_bool (by simp [h0, h1, h2]), rfl⟩
   ·have h3 : decide (c < 55296) = false := by simp; omega
    go_enter Tryz.func168, Tryz.ntmps168; go_wp2; go_ret; exact ⟨ret_bool (by simp [h0, h1, h2]), rfl⟩
  ·have h3 : decide (c <= 1114111) = false := by simp; omega
   go_enter Tryz.func168, Tryz.ntmps168; go_wp2; go_ret; exact ⟨ret_bool (by simp [h0, h1]), rfl⟩
 ·have h3 : decide (0 <= c) = false := by simp; omega
  go_enter Tryz.func168, Tryz.ntmps168; go_wp2; go_ret; exact ⟨ret_bool (by simp [h0]), rfl⟩
theorem width_any (c : Nat) (w : World) : Calls Tryz.prog 169 #[.int .i64 c] w fun e w' => e = .returned (.int .i64 (wid c : Nat)) /\ w = w' := by
 unfold wid
 by_cases h1 : c < 128
 ·rw [if_pos h1]
  go_enter Tryz.func169, Tryz.ntmps169; go_wp2; go_ret; exact ⟨rfl, rfl⟩
 ·rw [if_neg h1]
  by_cases h2 : c < 2048
  ·rw [if_pos h2]
   have d1 : decide ((c : Int) < 128) = false := by simp; omega
   have d2 : decide ((c : Int) < 2048) = true := by simp; omega
   clear h1 h2; go_enter Tryz.func169, Tryz.ntmps169; go_wp2; go_ret; exact ⟨rfl, rfl⟩
  ·rw [if_neg h2]
   by_cases h3 : c < 65536
   ·rw [if_pos h3]
    have d1 : decide ((c : Int) < 128) = false := by simp; omega
    have d2 : decide ((c : Int) < 2048) = false := by simp; omega
    have d3 : decide ((c : Int) < 65536) = true := by simp; omega
    clear h1 h2 h3; go_enter Tryz.func169, Tryz.ntmps169; go_wp2; go_ret; exact ⟨rfl, rfl⟩
   ·rw [if_neg h3]
    have d1 : decide ((c : Int) < 128) = false := by simp; omega
    have d2 : decide ((c : Int) < 2048) = false := by simp; omega
    have d3 : decide ((c : Int) < 65536) = false := by simp; omega
    clear h1 h2 h3; go_enter Tryz.func169, Tryz.ntmps169; go_wp2; go_ret; exact ⟨rfl, rfl⟩
abbrev firstPost (l : List Nat) (w : World) : Ending -> World -> Prop := fun e w' => e = .returned (.tuple #[.int .i64 (oneN l).1, .int .i64 (oneN l).2]) /\ w = w'
theorem ret_first {a b : Int} {l : List Nat} {c n : Nat} (h : oneN l = (c, n)) (h1 : a = c) (h2 : b = n) : Ending.returned (.tuple #[.int .i64 a, .int .i64 b]) = .returned (.tuple #[.int .i64 (oneN l).1, .int .i64 (oneN l).2]) := by
 rw [h, h1, h2]
theorem first_one (s : ByteArray) (i : Nat) (a : Nat) (r : List Nat) (w : World) (hT : Tab w) (hl : (bs s).drop i = a :: r) (hs : s.size <= 1048576) (h1 : a < 128) :
  Calls Tryz.prog 143 #[.string s, .int .i64 i] w (firstPost (a :: r) w) := by
 obtain ⟨h0, e0⟩ := bs_at hl (j := 0) (by simp); simp only [Nat.add_zero, List.getElem_cons_zero] at h0 e0; have ho : oneN (a :: r) = (a, 1) := by simp [oneN, h1]
 have HO := Lib.hid ho; have hc := hT (a / 8) (by omega); rw [size_same, show sizeOf8 a = 1 by simp [sizeOf8, h1]] at hc; clear ho hl; unfold firstPost; go_enter Tryz.func143, Tryz.ntmps143; go_wp2; go_ret2
 exact ⟨ret_first HO.out rfl rfl, rfl⟩
theorem or64' (c b : Nat) (h : c < 131072) (hb : b < 256) : bits .or .i64 ((c : Int) * 64) ((b : Int) % 64) = ((c * 64 + b % 64 : Nat) : Int) := by
 have := or64 c (b % 64) (by omega) (by omega)
 simpa using this
theorem first_many (s : ByteArray) (i : Nat) (a n : Nat) (r : List Nat) (w : World) (hT : Tab w) (hl : (bs s).drop i = a :: r) (hs : s.size <= 1048576) (hsz : sizeOf8 a = n) (hn : n = 2 \/ n = 3 \/ n = 4) :
  Calls Tryz.prog 143 #[.string s, .int .i64 i] w (firstPost (a :: r) w) := by
 have hlt : ∀ x ∈ a :: r, x < 256 := by rw [<- hl]; exact fun x hx => bs_lt x (List.mem_of_mem_drop hx)
 have ha := hlt a (by simp); have hi := Lib.hid (fun (j : Nat) (hj : j < (a :: r).length) => bs_at hl hj); have hlen : (a :: r).length = s.size - i := by rw [<- hl]; simp [bs_length]
 simp only [List.length_cons] at hlen; obtain ⟨h0, e0⟩ := hi.out 0 (by simp); simp only [Nat.add_zero, List.getElem_cons_zero] at h0 e0; have ho := oneN_many hlt hsz (by omega); have hc := hT (a / 8) (by omega); rw [size_same, hsz] at hc; clear hl; unfold firstPost
 by_cases hsh : r.length < n - 1
 ·rw [if_pos hsh] at ho
  have HO := Lib.hid ho; have hd : (s.size : Int) - i < n := by omega
  clear ho hsh hlen hsz; rcases hn with rfl | rfl | rfl
  all_goals
   go_enter Tryz.func143, Tryz.ntmps143; go_wp2; go_ret2
   exact ⟨ret_first HO.out rfl rfl, rfl⟩
 ·rw [if_neg hsh] at ho
  have HO := Lib.hid ho; have hd : (n : Int) <= (s.size : Int) - i := by omega
  have m1 := and31 a ha; have m2 := and15 a ha; have m3 := and7 a ha; have hin : initOf a n < 32 := by unfold initOf; split <;> (try split) <;> omega
  have hrl : n - 1 <= r.length := by omega
  have HLT := Lib.hid hlt; have hn1 : ((n : Int) == 1) = false := by rw [beq_eq_false_iff_ne]; omega
  have hn0 : ((n : Int) == 0) = false := by rw [beq_eq_false_iff_ne]; omega
  have hn4 : n <= 4 := by omega
  have hn2 : 2 <= n := by omega
  have hz : (n = 2 /\ ((n : Int) == 2) = true /\ initOf a n = a % 32) \/ (n = 3 /\ ((n : Int) == 2) = false /\ ((n : Int) == 3) = true /\ initOf a n = a % 16) \/ (n = 4 /\ ((n : Int) == 2) = false /\ ((n : Int) == 3) = false /\ initOf a n = a % 8) := by
   rcases hn with rfl | rfl | rfl
   ·exact .inl ⟨rfl, rfl, rfl⟩
   ·exact .inr (.inl ⟨rfl, rfl, rfl, rfl⟩)
   ·exact .inr (.inr ⟨rfl, rfl, rfl, rfl⟩)
  clear ho hsh hlen hsz hlt hn; have key : ∀ A : Nat, A = initOf a n -> A < 32 := fun A h => by omega
  rcases hz with ⟨-, f2, hz⟩ | ⟨-, f2, f3, hz⟩ | ⟨-, f2, f3, hz⟩
  all_goals
   have HZ := Lib.hid hz; clear hz; go_enter Tryz.func143, Tryz.ntmps143; go_wp2_with fail; go_loop [4, 5, 7] (fun c z k => ∃ C K : Nat, c = .int .i64 C /\ z = .int .i64 n /\ k = .int .i64 K /\ 1 <= K /\ K <= n /\ cont (initOf a n) (r.take (n - 1)) = cont C ((r.take (n - 1)).drop (K - 1)) /\ Hid ((K = 1 -> C < 32) /\ (K = 2 -> C < 2048) /\ (K = 3 -> C < 131072) /\ C < 8388608)) (fun _ _ k => n - (intOf k).toNat)
   case atStart =>
    refine ⟨initOf a n, 1, by rw [HZ.out]; simp, rfl, rfl, by omega, by omega, by simp, ?_⟩; have := hin; exact Lib.hid (by omega)
   case round =>
    obtain ⟨C, K, rfl, rfl, rfl, hK1, hK2, hcont, hC⟩ := hrel
    by_cases hKn : K < n
    ·have hKr : K < (a :: r).length := by simp; omega
     obtain ⟨h5, e5⟩ := hi.out K hKr
     have hel : (r.take (n - 1)).drop (K - 1) = (a :: r)[K] :: (r.take (n - 1)).drop K := by
      have h6 : K - 1 < (r.take (n - 1)).length := by simp; omega
      rw [List.drop_eq_getElem_cons h6]; obtain ⟨j, rfl⟩ : ∃ j, K = j + 1 := ⟨K - 1, by omega⟩; simp
     have hb := HLT.out _ (List.getElem_mem hKr); rw [hel] at hcont; clear hel; generalize (a :: r)[K] = b at e5 hb hcont; have h5i : 0 <= (i : Int) + (K : Int) /\ (i : Int) + (K : Int) < (s.size : Int) := by omega
     have m4 := and192 b hb; have m5 := and63 b (by omega)
     by_cases hb2 : b / 64 = 2
     ·have hCs : C < 131072 := by have := hC.out; omega
      have m6 := or64' C b hCs hb; have m7 : ((b / 64 * 64 : Nat) : Int) = 128 := by omega
      rw [m7] at m4; simp only [cont, hb2, if_true] at hcont; have HC := Lib.hid hcont; have HB : Hid ((K + 1 = 1 -> C * 64 + b % 64 < 32) /\ (K + 1 = 2 -> C * 64 + b % 64 < 2048) /\ (K + 1 = 3 -> C * 64 + b % 64 < 131072) /\ C * 64 + b % 64 < 8388608) := Lib.hid (by have := hC.out; omega); have hCw : C * 64 <= 8388607 := by omega
      clear hcont m7 hCs; go_wp2; go_round
      case rel => exact ⟨C * 64 + b % 64, K + 1, by go_num, rfl, by go_num, by omega, by omega, HC.out, HB⟩
      case measure => simp [intOf]; omega
     ·have m7 : (((b / 64 * 64 : Nat) : Int) != 128) = true := by rw [bne_iff_ne]; omega
      simp only [cont, hb2, if_false] at hcont; have HC := Lib.hid hcont; have H5 := HO.out; rw [HC.out] at H5; have H6 := Lib.hid H5; rw [<- m4] at m7; clear hcont H5; go_wp2; go_ret2
      exact ⟨ret_first H6.out rfl rfl, rfl⟩
    ·obtain rfl : K = n := by omega
     have hd0 : (r.take (K - 1)).drop (K - 1) = [] := List.drop_of_length_le (by simp; omega); rw [hd0] at hcont; simp only [cont] at hcont; have H5 := HO.out; rw [hcont] at H5; simp only at H5; clear hcont hd0
     by_cases hsc : isSc C = true
     ·by_cases hw : wid C = K
      ·rw [if_pos ⟨hsc, hw⟩] at H5
       have H6 := Lib.hid H5; have hb1 : ((wid C : Nat) : Int) = (K : Int) := by rw [hw]
       have HB1 := Lib.hid hb1; clear H5 hw hb1; go_wp2_with fail; refine (isScalar_any (C : Int) w).mono ?_; rintro e1 w1 ⟨rfl, rfl⟩; rw [isScI_nat, hsc]; go_wp2_with fail; refine (width_any C w).mono ?_; rintro e1 w1 ⟨rfl, rfl⟩; rw [HB1.out]; go_wp2; go_ret2
       exact ⟨ret_first H6.out rfl rfl, rfl⟩
      ·rw [if_neg (fun h => hw h.2)] at H5
       have H6 := Lib.hid H5; have hb1 : (((wid C : Nat) : Int) != (K : Int)) = true := by rw [bne_iff_ne]; omega
       clear H5 hw; go_wp2_with fail; refine (isScalar_any (C : Int) w).mono ?_; rintro e1 w1 ⟨rfl, rfl⟩; rw [isScI_nat, hsc]; go_wp2_with fail; refine (width_any C w).mono ?_; rintro e1 w1 ⟨rfl, rfl⟩; go_wp2; go_ret2
       exact ⟨ret_first H6.out rfl rfl, rfl⟩
     ·rw [if_neg (fun h => hsc h.1)] at H5
      have H6 := Lib.hid H5; have hsf : isSc C = false := by simpa using hsc
      clear H5 hsc; go_wp2_with fail; refine (isScalar_any (C : Int) w).mono ?_; rintro e1 w1 ⟨rfl, rfl⟩; rw [isScI_nat, hsf]; go_wp2; go_ret2
      exact ⟨ret_first H6.out rfl rfl, rfl⟩
theorem first_any (s : ByteArray) (i : Nat) (w : World) (hT : Tab w) (hs : s.size <= 1048576) :
  Calls Tryz.prog 143 #[.string s, .int .i64 i] w (firstPost ((bs s).drop i) w) := by
 obtain ⟨l, hl⟩ : ∃ l, (bs s).drop i = l := ⟨_, rfl⟩; rw [hl]
 match l with
 | [] =>
  have h1 : s.size <= i := by have := congrArg List.length hl; simp [bs_length] at this; omega
  unfold firstPost; go_enter Tryz.func143, Tryz.ntmps143; go_wp2; go_ret2
  exact ⟨rfl, rfl⟩
 | a :: r =>
  rcases sizeOf8_cases a with h | h | h
  ·obtain ⟨h0, e0⟩ := bs_at hl (j := 0) (by simp)
   simp only [Nat.add_zero, List.getElem_cons_zero] at h0 e0; have ha := bs_lt a (List.mem_of_mem_drop (i := i) (by rw [hl]; simp)); have HO := Lib.hid (oneN_none (r := r) h); have hc := hT (a / 8) (by omega); rw [size_same, h] at hc; clear hl h; unfold firstPost; go_enter Tryz.func143, Tryz.ntmps143; go_wp2; go_ret2
   exact ⟨ret_first HO.out rfl rfl, rfl⟩
  ·exact first_one s i a r w hT hl hs (sizeOf8_one h)
  ·exact first_many s i a _ r w hT hl hs rfl (by omega)
def badV : Option Nat -> Int
 | none => -1
 | some a => a
def Rest (l : List Nat) (k : Nat) (pre : List (Nat × Nat)) : Prop := scan l 0 = (pre ++ (scan (l.drop k) k).1, (scan (l.drop k) k).2)
theorem Rest.zero (l : List Nat) : Rest l 0 [] := by simp [Rest]
theorem Rest.bad {l : List Nat} {k : Nat} {pre : List (Nat × Nat)} (h : Rest l k pre) (hk : k < l.length) (h1 : (oneN (l.drop k)).2 = 0) : scan l 0 = (pre, some k) := by
 have hne : l.drop k ≠ [] := by intro h; have := congrArg List.length h; simp at this; omega
 rw [h, scan_bad hne h1]; simp
theorem Rest.good {l : List Nat} {k c n : Nat} {pre : List (Nat × Nat)} (h : Rest l k pre) (hk : k < l.length) (h1 : oneN (l.drop k) = (c, n)) (hn : n ≠ 0) : Rest l (k + n) (pre ++ [(k, c)]) := by
 have hne : l.drop k ≠ [] := by intro h; have := congrArg List.length h; simp at this; omega
 unfold Rest at h ⊢; rw [h, scan_good hne h1 hn, List.drop_drop]; simp
theorem Rest.done {l : List Nat} {k : Nat} {pre : List (Nat × Nat)} (h : Rest l k pre) (hk : k = l.length) : scan l 0 = (pre, none) := by
 rw [h, hk, List.drop_length, scan_nil]; simp
theorem scan_lt : ∀ (m : Nat) (l : List Nat) (a k : Nat), l.length <= m -> (∀ x ∈ l, x < 256) -> (scan l a).2 = some k -> k < a + l.length
 | m, l, a, k, hm, hl, h => by
  by_cases h0 : l = []
  ·subst h0; simp [scan_nil] at h
  have hp := List.length_pos_iff.2 h0
  by_cases hn : (oneN l).2 = 0
  ·rw [scan_bad h0 hn] at h; simp at h; omega
  ·have hle := (oneN_le l hl).1
   cases m with
   | zero => omega
   | succ m =>
    rw [scan_step h0, if_neg hn] at h; have := scan_lt m (l.drop (oneN l).2) (a + (oneN l).2) k (by simp; omega) (fun x hx => hl x (List.mem_of_mem_drop hx)) h; simp at this; omega
theorem Bad_any (s : ByteArray) (w : World) (hT : Tab w) (hs : s.size <= 1048576) :
  Calls Tryz.prog 190 #[.string s] w fun e w' => e = .returned (.int .i64 (badV (scan (bs s) 0).2)) /\ w = w' := by
 go_enter Tryz.func190, Tryz.ntmps190; go_wp2_with fail; go_loop [3] (fun i => ∃ (k : Nat) (pre : List (Nat × Nat)), i = .int .i64 k /\ k <= s.size /\ Rest (bs s) k pre) (fun i => s.size - (intOf i).toNat)
 case atStart => exact ⟨0, [], rfl, Nat.zero_le _, Rest.zero _⟩
 case round =>
  obtain ⟨k, pre, rfl, hk, hr⟩ := hrel; have HR := Lib.hid hr; clear hr
  by_cases h : k < s.size
  ·obtain ⟨c, n, h1⟩ : ∃ c n, oneN ((bs s).drop k) = (c, n) := ⟨_, _, rfl⟩
   have hle := (oneN_le ((bs s).drop k) (fun x hx => bs_lt x (List.mem_of_mem_drop hx))).1; have hF := first_any s k w hT hs; unfold firstPost at hF; rw [h1] at hF hle; simp only [List.length_drop, bs_length] at hle; have H1 := Lib.hid h1; clear h1
   by_cases hn : n = 0
   ·subst hn
    have h2 := Lib.hid (HR.out.bad (by rw [bs_length]; exact h) (by rw [H1.out])); go_wp2_with fail; refine hF.mono ?_; clear hF; rintro e w1 ⟨rfl, rfl⟩; go_wp2; go_ret; rw [h2.out]; exact ⟨rfl, rfl⟩
   ·have h2 := Lib.hid (HR.out.good (by rw [bs_length]; exact h) H1.out hn)
    have hb : ((n : Int) == 0) = false := by rw [beq_eq_false_iff_ne]; omega
    have hn1 : 1 <= n := by omega
    clear hn; go_wp2_with fail; refine hF.mono ?_; clear hF; rintro e w1 ⟨rfl, rfl⟩; go_wp2; go_round
    case rel => exact ⟨k + n, _, by go_num, by omega, h2.out⟩
    case measure => simp [intOf]; omega
  ·have h2 := Lib.hid (HR.out.done (by rw [bs_length]; omega))
   go_wp2; go_ret; rw [h2.out]; exact ⟨rfl, rfl⟩
def countV (r : List (Nat × Nat) × Option Nat) : Nat := if r.2.isNone then r.1.length else 0
theorem Count_any (s : ByteArray) (w : World) (hT : Tab w) (hs : s.size <= 1048576) :
  Calls Tryz.prog 110 #[.string s] w fun e w' => e = .returned (.tuple #[.int .i64 (countV (scan (bs s) 0)), .bool (scan (bs s) 0).2.isNone]) /\ w = w' := by
 go_enter Tryz.func110, Tryz.ntmps110; go_wp2_with fail; go_loop [4, 5] (fun m i => ∃ (k : Nat) (pre : List (Nat × Nat)), m = .int .i64 (pre.length : Nat) /\ i = .int .i64 k /\ k <= s.size /\ pre.length <= k /\ Rest (bs s) k pre) (fun _ i => s.size - (intOf i).toNat)
 case atStart => exact ⟨0, [], rfl, rfl, Nat.zero_le _, Nat.le_refl _, Rest.zero _⟩
 case round =>
  obtain ⟨k, pre, rfl, rfl, hk, hpl, hr⟩ := hrel; have HR := Lib.hid hr; clear hr
  by_cases h : k < s.size
  ·obtain ⟨c, n, h1⟩ : ∃ c n, oneN ((bs s).drop k) = (c, n) := ⟨_, _, rfl⟩
   have hle := (oneN_le ((bs s).drop k) (fun x hx => bs_lt x (List.mem_of_mem_drop hx))).1; have hF := first_any s k w hT hs; unfold firstPost at hF; rw [h1] at hF hle; simp only [List.length_drop, bs_length] at hle; have H1 := Lib.hid h1; clear h1
   by_cases hn : n = 0
   ·subst hn
    have h2 := Lib.hid (HR.out.bad (by rw [bs_length]; exact h) (by rw [H1.out])); go_wp2_with fail; refine hF.mono ?_; clear hF; rintro e w1 ⟨rfl, rfl⟩; go_wp2; go_ret2
    rw [h2.out]; exact ⟨rfl, rfl⟩
   ·have h2 := Lib.hid (HR.out.good (by rw [bs_length]; exact h) H1.out hn)
    have hb : ((n : Int) == 0) = false := by rw [beq_eq_false_iff_ne]; omega
    have hn1 : 1 <= n := by omega
    clear hn; go_wp2_with fail; refine hF.mono ?_; clear hF; rintro e w1 ⟨rfl, rfl⟩; go_wp2; go_round
    case rel => exact ⟨k + n, _, by simp, by go_num, by omega, by simp; omega, h2.out⟩
    case measure => simp [intOf]; omega
  ·have h2 := Lib.hid (HR.out.done (by rw [bs_length]; omega))
   go_wp2; go_ret2
   rw [h2.out]; exact ⟨rfl, rfl⟩
def strOf (l : List UInt8) : ByteArray := ⟨l.toArray⟩
theorem or_join (k m x : Nat) (hx : x < 2 ^ k) (hm : 2 ^ k * m < 256) (hx2 : x < 256) : bits .or .i64 ((2 ^ k * m : Nat) : Int) (x : Int) = ((2 ^ k * m + x : Nat) : Int) := by
 have := i64_or_nat (2 ^ k * m) x (by omega) (by omega); rw [<- Nat.two_pow_add_eq_or_of_lt hx m] at this; exact this
theorem or128 (x : Nat) (h : x < 64) : bits .or .i64 128 (x : Int) = ((128 + x : Nat) : Int) := or_join 6 2 x h (by decide) (by omega)
theorem or192 (x : Nat) (h : x < 64) : bits .or .i64 192 (x : Int) = ((192 + x : Nat) : Int) := or_join 6 3 x h (by decide) (by omega)
theorem or224 (x : Nat) (h : x < 32) : bits .or .i64 224 (x : Int) = ((224 + x : Nat) : Int) := or_join 5 7 x h (by decide) (by omega)
theorem or240 (x : Nat) (h : x < 16) : bits .or .i64 240 (x : Int) = ((240 + x : Nat) : Int) := or_join 4 15 x h (by decide) (by omega)
theorem tail_any (c : Nat) (w : World) (hc : c <= 1114111) : Calls Tryz.prog 227 #[.int .i64 c] w fun e w' => e = .returned (.int .u8 (128 + c % 64 : Nat)) /\ w = w' := by
 have m1 := and63 c (by omega); have m2 := or128 (c % 64) (by omega); push_cast at m1 m2; clear hc; go_enter Tryz.func227, Tryz.ntmps227; go_wp2; go_ret; exact ⟨ret_num (by simp), rfl⟩
theorem Tryz.underS : Tryz.prog.underlying 9 = some .string := by kernel_rfl
theorem conv_back (w : World) (l : List UInt8) (cs : Array Value) (n : Nat) (m : List UInt8) (hm : m = l) (h : cs = (l.map byteV).toArray) (hn : n = l.length) :
  (convert 67 9 (.slice (some ⟨w.heap.size, 0, none⟩) n n)).run Tryz.prog (w.alloc (.cells cs 5)) = .ok (.string (strOf m)) (w.alloc (.cells cs 5)) := by
 subst hm h hn; refine run_convert_bytes_back (P := Tryz.prog) _ _ _ 5 _ m.length m Tryz.underlying67 Tryz.underlying5 Tryz.underS fun j hj => ?_; rw [Addr.add_lit, World.cell?_alloc_new]; simp [hj]
theorem Put_any (c : Nat) (w : World) (h : isSc c = true) :
  Calls Tryz.prog 209 #[.int .i64 c] w fun e w' => e = .returned (.tuple #[.string (strOf (putU c)), .bool true]) /\ Below w.heap.size w w' := by
 have hS := isScalar_any (c : Int) w; rw [isScI_nat, h] at hS; rw [isSc_iff] at h; obtain ⟨h, -⟩ := h
 by_cases h1 : c < 128
 ·have hW := width_any c w
  rw [show wid c = 1 by simp [wid, h1]] at hW; have hp : putU c = [UInt8.ofNat c] := by simp [putU, putN, h1]
  have hcv := conv_back w [UInt8.ofNat c] #[.int .u8 c] 1 (putU c) hp (by simp [byteV]; omega) rfl; clear hp; go_enter Tryz.func209, Tryz.ntmps209; go_wp2_with fail; refine hS.mono ?_; rintro e w1 ⟨rfl, rfl⟩; go_wp2_with fail; refine hW.mono ?_; rintro e w1 ⟨rfl, rfl⟩; go_wp2; go_ret2
  exact ⟨rfl, (Below.refl _ _).alloc (Nat.le_refl _) _⟩
 ·by_cases h2 : c < 2048
  ·have hW := width_any c w
   rw [show wid c = 2 by simp [wid, h1, h2]] at hW; have hp : putU c = [UInt8.ofNat (192 + c / 64), UInt8.ofNat (128 + c % 64)] := by simp [putU, putN, h1, h2]
   have m1 := or192 (c / 64) (by omega); push_cast at m1; have H := Lib.hid h; have hcv := conv_back w [UInt8.ofNat (192 + c / 64), UInt8.ofNat (128 + c % 64)] #[.int .u8 (192 + (c : Int) / 64), .int .u8 (128 + (c : Int) % 64)] 2 (putU c) hp (by simp [byteV]; omega) rfl; have hb : c / 64 <= 31 := by omega
   clear hp h h1 h2; go_enter Tryz.func209, Tryz.ntmps209; go_wp2_with fail; refine hS.mono ?_; rintro e w1 ⟨rfl, rfl⟩; go_wp2_with fail; refine hW.mono ?_; rintro e w1 ⟨rfl, rfl⟩; go_wp2_with fail; refine (tail_any c w H.out).mono ?_; rintro e w1 ⟨rfl, rfl⟩; go_wp2; go_ret2
   exact ⟨rfl, (Below.refl _ _).alloc (Nat.le_refl _) _⟩
  ·by_cases h3 : c < 65536
   ·have hW := width_any c w
    rw [show wid c = 3 by simp [wid, h1, h2, h3]] at hW; have hp : putU c = [UInt8.ofNat (224 + c / 4096), UInt8.ofNat (128 + c / 64 % 64), UInt8.ofNat (128 + c % 64)] := by simp [putU, putN, h1, h2, h3]
    have m1 := or224 (c / 4096) (by omega); push_cast at m1; have H := Lib.hid h; have H2 := Lib.hid (show c / 64 <= 1114111 by omega); have hcv := conv_back w [UInt8.ofNat (224 + c / 4096), UInt8.ofNat (128 + c / 64 % 64), UInt8.ofNat (128 + c % 64)] #[.int .u8 (224 + (c : Int) / 4096), .int .u8 (128 + (c : Int) / 64 % 64), .int .u8 (128 + (c : Int) % 64)] 3 (putU c) hp (by simp [byteV]; omega) rfl; have hb : c / 4096 <= 15 := by omega
    clear hp h h1 h2 h3; go_enter Tryz.func209, Tryz.ntmps209; go_wp2_with fail; refine hS.mono ?_; rintro e w1 ⟨rfl, rfl⟩; go_wp2_with fail; refine hW.mono ?_; rintro e w1 ⟨rfl, rfl⟩; go_wp2_with fail; refine (tail_any (c / 64) w H2.out).mono ?_; rintro e w1 ⟨rfl, rfl⟩; go_wp2_with fail; refine (tail_any c w H.out).mono ?_; rintro e w1 ⟨rfl, rfl⟩; go_wp2; go_ret2
    exact ⟨rfl, (Below.refl _ _).alloc (Nat.le_refl _) _⟩
   ·have hW := width_any c w
    rw [show wid c = 4 by simp [wid, h1, h2, h3]] at hW; have hp : putU c = [UInt8.ofNat (240 + c / 262144), UInt8.ofNat (128 + c / 4096 % 64), UInt8.ofNat (128 + c / 64 % 64), UInt8.ofNat (128 + c % 64)] := by simp [putU, putN, h1, h2, h3]
    have m1 : bits .or .i64 240 ((c : Int) / 262144) = 240 + (c : Int) / 262144 := by
     have := or240 (c / 262144) (by omega); rw [Int.natCast_add, Int.natCast_ediv] at this; exact this
    have H := Lib.hid h; have H2 := Lib.hid (show c / 64 <= 1114111 by omega); have H3 := Lib.hid (show c / 4096 <= 1114111 by omega); have hcv := conv_back w [UInt8.ofNat (240 + c / 262144), UInt8.ofNat (128 + c / 4096 % 64), UInt8.ofNat (128 + c / 64 % 64), UInt8.ofNat (128 + c % 64)] #[.int .u8 (240 + (c : Int) / 262144), .int .u8 (128 + (c : Int) / 4096 % 64), .int .u8 (128 + (c : Int) / 64 % 64), .int .u8 (128 + (c : Int) % 64)] 4 (putU c) hp (by simp [byteV]; omega) rfl; have hb : c / 262144 <= 4 := by omega
    clear hp h h1 h2 h3; go_enter Tryz.func209, Tryz.ntmps209; go_wp2_with fail; refine hS.mono ?_; rintro e w1 ⟨rfl, rfl⟩; go_wp2_with fail; refine hW.mono ?_; rintro e w1 ⟨rfl, rfl⟩; go_wp2_with fail; refine (tail_any (c / 4096) w H3.out).mono ?_; rintro e w1 ⟨rfl, rfl⟩; go_wp2_with fail; refine (tail_any (c / 64) w H2.out).mono ?_; rintro e w1 ⟨rfl, rfl⟩; go_wp2_with fail; refine (tail_any c w H.out).mono ?_; rintro e w1 ⟨rfl, rfl⟩; go_wp2; go_ret2
    exact ⟨rfl, (Below.refl _ _).alloc (Nat.le_refl _) _⟩
theorem Put_none (c : Int) (w : World) (h : isScI c = false) :
  Calls Tryz.prog 209 #[.int .i64 c] w fun e w' => e = .returned (.tuple #[.string (strOf []), .bool false]) /\ w = w' := by
 have hS := isScalar_any c w; rw [h] at hS; go_enter Tryz.func209, Tryz.ntmps209; go_wp2_with fail; refine hS.mono ?_; rintro e w1 ⟨rfl, rfl⟩; go_wp2; go_ret2
 exact ⟨rfl, rfl⟩
abbrev failV (n : Int) : Value := .iface 176 (.agg #[.int .i64 n])
abbrev FailP (n : Int) : Ending := .panicked [{ v := failV n, recovered := false }]
theorem fail_any (n : Int) (w : World) : Calls Tryz.prog 156 #[.int .i64 n] w fun e w' => e = FailP n /\ w = w' := by
 go_enter Tryz.func156, Tryz.ntmps156; go_wp2; exact ⟨rfl, rfl, rfl⟩
def RdrAt (w : World) (g : Nat) (s : ByteArray) (k : Nat) (l : List UInt8) : Prop :=
 ∃ cs, Bld 180 g w g 2 cs l /\ cs.size = 4 /\ cs[0]? = some (.string s) /\ cs[1]? = some (.int .i64 (k : Int))
theorem in4 : BldIn 180 4 2 := ⟨by decide, by kernel_rfl, by decide⟩
theorem RdrAt.drewN {w : World} {g : Nat} {s : ByteArray} {k : Nat} {l : List UInt8} (h : RdrAt w g s k l) (n : Nat) : RdrAt (w.drewN n) g s k l := by
 obtain ⟨cs, ⟨h1, h2, v, h3, h4⟩, h5⟩ := h; exact ⟨cs, ⟨h1.drewN n, h2, v, h3, h4.drewN n⟩, h5⟩
theorem RdrAt.lt {w : World} {g : Nat} {s : ByteArray} {k : Nat} {l : List UInt8} (h : RdrAt w g s k l) : g < w.heap.size := by
 obtain ⟨cs, h1, _⟩ := h; exact h1.cells.lt
theorem RdrAt.moved {w : World} {g : Nat} {s : ByteArray} {k : Nat} {l : List UInt8} (h : RdrAt w g s k l) (k' : Nat) : RdrAt (w.setCell ⟨g, 1, none⟩ (.int .i64 (k' : Int))) g s k' l := by
 obtain ⟨cs, ⟨h1, h2, v, h3, h4⟩, h5, h6, h7⟩ := h; refine ⟨cs.set 1 (.int .i64 (k' : Int)) (by omega), ⟨h1.set 1 (by omega) _, ?_, v, ?_, h4.setOther _ _ (own_ne_box h4 h1 (by decide))⟩, by simpa using h5, ?_, by simp⟩
 ·rwa [Array.getElem?_set_ne (by omega) (by omega)]
 ·rwa [Array.getElem?_set_ne (by omega) (by omega)]
 ·rwa [Array.getElem?_set_ne (by omega) (by omega)]
theorem below_moved {w : World} (g : Nat) (v : Value) : Below g w (w.setCell ⟨g, 1, none⟩ v) := (Below.refl g w).setCell (p := ⟨g, 1, none⟩) (Nat.le_refl _) v
def OkR (g : Nat) (s : ByteArray) (w : World) (v : Value) (k' : Nat) (l' : List UInt8) (e : Ending) (w' : World) : Prop :=
 e = .returned v /\ RdrAt w' g s k' l' /\ Below g w w' /\ Beside 5 g w w'
def BadR (g : Nat) (w : World) (n : Int) (e : Ending) (w' : World) : Prop := e = FailP n /\ Below g w w'
theorem Beside.drewN {E : TypeId} {g : Nat} {w w' : World} (h : Beside E g w w') (n : Nat) : Beside E g w (w'.drewN n) := h
theorem Below.drewN' {B : Nat} {w w' : World} (h : Below B w w') (n : Nat) : Below B w (w'.drewN n) := h.trans (below_draws B w' n)
theorem rnext_end (w : World) (g : Nat) (s : ByteArray) (k : Nat) (l : List UInt8) (h : RdrAt w g s k l) (hk : k = s.size) (hs : s.size <= 1048576) :
  Calls Tryz.prog 155 #[.pointer (some ⟨g, 0, none⟩)] w (BadR g w 2) := by
 obtain ⟨cs, hb, h5, h6, h7⟩ := h; have c0 := hb.cells.cell 0 _ h6; have c1 := hb.cells.cell 1 _ h7; have hd : decide (s.size <= k) = true := by simp; omega
 clear hk hb h5 h6 h7; go_enter Tryz.func155, Tryz.ntmps155; go_wp2_with fail; go_quiet (fail)
 go_wp2_with fail; refine (fail_any 2 _).mono ?_; rintro e w1 ⟨rfl, rfl⟩; go_wp2; exact ⟨rfl, rfl, Below.drewN' (Below.refl g w) _⟩
theorem rnext_any (w : World) (g : Nat) (s : ByteArray) (k : Nat) (l : List UInt8) (h : RdrAt w g s k l) (hk : k < s.size) (hs : s.size <= 1048576) :
  Calls Tryz.prog 155 #[.pointer (some ⟨g, 0, none⟩)] w (OkR g s w (.int .u8 ((s[k]'hk).toNat : Nat)) (k + 1) l) := by
 obtain ⟨cs, hb, h5, h6, h7⟩ := id h; have c0 := hb.cells.cell 0 _ h6; have c1 := hb.cells.cell 1 _ h7; have f1 := hb.cells.frozen 1; have hd : decide (s.size <= k) = false := by simp; omega
 have hlt := hb.cells.lt; clear hb h5 h6 h7; go_enter Tryz.func155, Tryz.ntmps155; go_wp2_with fail; go_quiet (fail)
 go_wp2_with fail; go_quiet (fail)
 go_wp2; go_ret; exact ⟨rfl, ((h.drewN _).moved (k + 1)).drewN _, Below.drewN' ((Below.drewN' (Below.refl g w) _).setCell (p := ⟨g, 1, none⟩) (Nat.le_refl _) _) _, ((Beside.refl.drewN _).setCell 1 _).drewN _⟩
theorem drop_nil_iff {s : ByteArray} {k : Nat} (hk : k <= s.size) (h : (bs s).drop k = []) : k = s.size := by
 have := congrArg List.length h; simp [bs_length] at this; omega
theorem rnext_nil (w : World) (g : Nat) (s : ByteArray) (k : Nat) (l : List UInt8) (h : RdrAt w g s k l) (hk : k <= s.size) (hr : (bs s).drop k = []) (hs : s.size <= 1048576) :
  Calls Tryz.prog 155 #[.pointer (some ⟨g, 0, none⟩)] w (BadR g w 2) := rnext_end w g s k l h (drop_nil_iff hk hr) hs
theorem rnext_cons (w : World) (g : Nat) (s : ByteArray) (k : Nat) (l : List UInt8) {c : Nat} {r : List Nat} (h : RdrAt w g s k l) (hr : (bs s).drop k = c :: r) (hs : s.size <= 1048576) :
  Calls Tryz.prog 155 #[.pointer (some ⟨g, 0, none⟩)] w (OkR g s w (.int .u8 (c : Int)) (k + 1) l) := by
 obtain ⟨hk, he⟩ := bs_at hr (j := 0) (by simp); have hk' : k < s.size := hk; have e : (s[k]'hk').toNat = c := he; have := rnext_any w g s k l h hk' hs
 rwa [e] at this
theorem drop_cons {l r : List Nat} {k c : Nat} (h : l.drop k = c :: r) : l.drop (k + 1) = r /\ k < l.length := by
 refine ⟨?_, ?_⟩
 ·rw [<- List.drop_drop, h]; rfl
 ·have := congrArg List.length h; simp at this; omega
theorem or16 (a b : Nat) (h : a < 16777216) (hb : b < 16) : bits .or .i64 ((a : Int) * 16) (b : Int) = ((a * 16 + b : Nat) : Int) := by
 have := i64_or_nat (a * 16) b (by omega) (by omega); push_cast at this; rw [this, show a * 16 = 2 ^ 4 * a by omega, <- Nat.two_pow_add_eq_or_of_lt (by omega : b < 2 ^ 4)]
def FourP (g : Nat) (s : ByteArray) (w : World) (k : Nat) (l : List UInt8) (r : List Nat) (e : Ending) (w' : World) : Prop :=
 ((unitQ r).2 = 0 /\ OkR g s w (.int .i64 ((unitQ r).1 : Nat)) (k + 4) l e w') \/ ((unitQ r).2 ≠ 0 /\ BadR g w ((unitQ r).2 : Nat) e w')
theorem lim4 {j m : Nat} (hj : j < 4) (hm : m < 16 ^ j) : m < 4096 /\ ∀ d, d < 16 -> m * 16 + d < 16 ^ (j + 1) := by
 have : j = 0 \/ j = 1 \/ j = 2 \/ j = 3 := by omega
 rcases this with rfl | rfl | rfl | rfl <;> simp at hm ⊢ <;> refine ⟨by omega, fun d hd => by omega⟩
theorem four_any (w : World) (g : Nat) (s : ByteArray) (k : Nat) (l : List UInt8) (h : RdrAt w g s k l) (hk : k <= s.size) (hs : s.size <= 1048576) :
  Calls Tryz.prog 226 #[.pointer (some ⟨g, 0, none⟩)] w (FourP g s w k l ((bs s).drop k)) := by
 go_enter Tryz.func226, Tryz.ntmps226; go_wp2_with fail; go_loopw [3, 5] (fun n i wr => ∃ (j m : Nat), j <= 4 /\ n = .int .i64 m /\ i = .int .i64 j /\ m < 16 ^ j /\ RdrAt wr g s (k + j) l /\ k + j <= s.size /\ Below g w wr /\ Beside 5 g w wr /\ unitF (4 - j) m ((bs s).drop (k + j)) = unitQ ((bs s).drop k)) (fun _ i _ => 4 - (intOf i).toNat)
 case atStart => exact ⟨0, 0, by omega, rfl, rfl, by simp, h, hk, Below.refl _ _, Beside.refl, rfl⟩
 case round =>
  obtain ⟨j, m, hj, rfl, rfl, hm, hR, hkj, hb, hB, hu⟩ := hrel
  by_cases hj4 : j < 4
  ·obtain ⟨hm1, hm2⟩ := lim4 hj4 hm
   obtain ⟨i, hi⟩ : ∃ i, 4 - j = i + 1 := ⟨3 - j, by omega⟩; rw [hi] at hu
   cases hr : (bs s).drop (k + j) with
   | nil =>
    rw [hr, unitF] at hu; have HU := Lib.hid hu; have hN := rnext_nil wr g s (k + j) l hR hkj hr hs; clear hu hr hi hm2 hm; go_wp2_with fail; refine hN.mono ?_; rintro e w1 ⟨rfl, hb1⟩; go_wp2; exact ⟨rfl, .inr ⟨by rw [<- HU.out]; simp, by rw [<- HU.out]; rfl, hb.trans hb1⟩⟩
   | cons c r =>
    obtain ⟨hd1, hd2⟩ := drop_cons hr; rw [bs_length] at hd2; have HR := Lib.hid (show (bs s).drop (k + (j + 1)) = r from hd1); have hc : c < 256 := bs_lt c (List.mem_of_mem_drop (by rw [hr]; simp)); have hN := rnext_cons wr g s (k + j) l hR hr hs; rw [hr] at hu; simp only [unitF] at hu; clear hd1
    by_cases h1 : 48 <= c /\ c <= 57
    ·obtain ⟨x, hx⟩ : ∃ x, x = m * 16 + (c - 48) := ⟨_, rfl⟩
     have ho : bits .or .i64 ((m : Int) * 16) ((c : Int) - 48) = (x : Int) := by
      have := or16 m (c - 48) (by omega) (by omega); rw [show (((c - 48 : Nat)) : Int) = (c : Int) - 48 by omega] at this; rw [this, hx]
     have hx2 : x < 16 ^ (j + 1) := by rw [hx]; exact hm2 _ (by omega)
     rw [show hexV c = some (c - 48) by unfold hexV; rw [if_pos h1]] at hu; simp only [<- hx] at hu; have HU := Lib.hid hu; have HX2 := Lib.hid hx2; clear hu hr hm2 hm hx2 hx; have HI := Lib.hid hi; clear hi; go_wp2_with fail; refine hN.mono ?_; clear hN; rintro e w1 ⟨rfl, hR1, hb1, hB1⟩; go_wp2; go_roundw
     case rel => exact ⟨j + 1, x, by omega, rfl, by go_num, HX2.out, hR1, by omega, hb.trans hb1, hB.trans hB1, by rw [show 4 - (j + 1) = i by have := HI.out; omega, HR.out]; exact HU.out⟩
     case measure => simp [intOf]; omega
    by_cases h2 : 97 <= c /\ c <= 102
    ·obtain ⟨x, hx⟩ : ∃ x, x = m * 16 + (c - 87) := ⟨_, rfl⟩
     have ho : bits .or .i64 ((m : Int) * 16) ((c : Int) - 97 + 10) = (x : Int) := by
      have := or16 m (c - 87) (by omega) (by omega); rw [show (((c - 87 : Nat)) : Int) = (c : Int) - 97 + 10 by omega] at this; rw [this, hx]
     have hx2 : x < 16 ^ (j + 1) := by rw [hx]; exact hm2 _ (by omega)
     rw [show hexV c = some (c - 87) by unfold hexV; rw [if_neg h1, if_pos h2]] at hu; simp only [<- hx] at hu; have HU := Lib.hid hu; have HX2 := Lib.hid hx2; clear hu hr hm2 hm hx2 hx; have HI := Lib.hid hi; clear hi; go_wp2_with fail; refine hN.mono ?_; clear hN; rintro e w1 ⟨rfl, hR1, hb1, hB1⟩; go_wp2; go_roundw
     case rel => exact ⟨j + 1, x, by omega, rfl, by go_num, HX2.out, hR1, by omega, hb.trans hb1, hB.trans hB1, by rw [show 4 - (j + 1) = i by have := HI.out; omega, HR.out]; exact HU.out⟩
     case measure => simp [intOf]; omega
    by_cases h3 : 65 <= c /\ c <= 70
    ·obtain ⟨x, hx⟩ : ∃ x, x = m * 16 + (c - 55) := ⟨_, rfl⟩
     have ho : bits .or .i64 ((m : Int) * 16) ((c : Int) - 65 + 10) = (x : Int) := by
      have := or16 m (c - 55) (by omega) (by omega); rw [show (((c - 55 : Nat)) : Int) = (c : Int) - 65 + 10 by omega] at this; rw [this, hx]
     have hx2 : x < 16 ^ (j + 1) := by rw [hx]; exact hm2 _ (by omega)
     rw [show hexV c = some (c - 55) by unfold hexV; rw [if_neg h1, if_neg h2, if_pos h3]] at hu; simp only [<- hx] at hu; have HU := Lib.hid hu; have HX2 := Lib.hid hx2; clear hu hr hm2 hm hx2 hx; have HI := Lib.hid hi; clear hi; go_wp2_with fail; refine hN.mono ?_; clear hN; rintro e w1 ⟨rfl, hR1, hb1, hB1⟩; go_wp2; go_roundw
     case rel => exact ⟨j + 1, x, by omega, rfl, by go_num, HX2.out, hR1, by omega, hb.trans hb1, hB.trans hB1, by rw [show 4 - (j + 1) = i by have := HI.out; omega, HR.out]; exact HU.out⟩
     case measure => simp [intOf]; omega
    ·rw [show hexV c = none by unfold hexV; rw [if_neg h1, if_neg h2, if_neg h3]] at hu
     have HU := Lib.hid hu; clear hu hr hm2 hm hi; have h4 : c < 48 \/ (58 <= c /\ c <= 64) \/ (71 <= c /\ c <= 96) \/ 103 <= c := by omega
     clear h1 h2 h3; rcases h4 with h4 | h4 | h4 | h4
     all_goals
      go_wp2_with fail; refine hN.mono ?_; rintro e w1 ⟨rfl, hR1, hb1, hB1⟩; go_wp2_with fail; refine (fail_any 3 _).mono ?_; rintro e w2 ⟨rfl, rfl⟩; go_wp2; exact ⟨rfl, .inr ⟨by rw [<- HU.out]; simp, by rw [<- HU.out]; rfl, hb.trans hb1⟩⟩
  ·obtain rfl : j = 4 := by omega
   simp only [Nat.sub_self, unitF] at hu; have HU := Lib.hid hu; clear hu hm; go_wp2; go_ret; exact .inl ⟨by rw [<- HU.out], by rw [<- HU.out]; rfl, hR, hb, hB⟩
def un (l : List Nat) : List UInt8 := l.map UInt8.ofNat
theorem un_append (a b : List Nat) : un (a ++ b) = un a ++ un b := by simp [un]
theorem RdrAt.wrote {w : World} {g : Nat} {s : ByteArray} {k : Nat} {l' : List UInt8} {w' : World} {cs : Array Value} (h5 : cs.size = 4) (h6 : cs[0]? = some (.string s)) (h7 : cs[1]? = some (.int .i64 (k : Int)))
  (h : ∃ cs', Bld 180 g w' g 2 cs' l' /\ Used g 2 cs cs' /\ Below g w w' /\ Beside 5 g w w') : RdrAt w' g s k l' /\ Below g w w' /\ Beside 5 g w w' := by
 obtain ⟨cs', hb, ⟨h1, h2, h3⟩, h8, h9⟩ := h; exact ⟨⟨cs', hb, by rw [h1, h5], by rw [h2 0 (by omega) (by omega)]; exact h6, by rw [h2 1 (by omega) (by omega)]; exact h7⟩, h8, h9⟩
theorem rWB (w : World) (g : Nat) (s : ByteArray) (k : Nat) (l : List UInt8) (c : Nat) (n : Int) (hn : n = (c : Int)) (hc : c < 256) (h : RdrAt w g s k l) (hl : l.length <= 100000000) :
  Calls Tryz.prog 183 #[.pointer (some ⟨g, 2, none⟩), .int .u8 n] w fun e w' => e = .returned .nilIface /\ RdrAt w' g s k (l ++ un [c]) /\ Below g w w' /\ Beside 5 g w w' := by
 obtain ⟨cs, hb, h5, h6, h7⟩ := h; refine (WriteByte_any w (UInt8.ofNat c) n (by rw [hn, UInt8.toNat_ofNat']; omega) hb (by rw [h5]; exact in4) (Nat.le_refl _) (by omega)).mono ?_; rintro e w' ⟨rfl, hh⟩; exact ⟨rfl, RdrAt.wrote h5 h6 h7 hh⟩
theorem rWS (w : World) (g : Nat) (s : ByteArray) (k : Nat) (l : List UInt8) (x : ByteArray) (h : RdrAt w g s k l) (hl : l.length + x.size <= 100000000) :
  Calls Tryz.prog 113 #[.pointer (some ⟨g, 2, none⟩), .string x] w fun e w' => e = .returned (.tuple #[.int .i64 x.size, .nilIface]) /\ RdrAt w' g s k (l ++ x.data.toList) /\ Below g w w' /\ Beside 5 g w w' := by
 obtain ⟨cs, hb, h5, h6, h7⟩ := h; refine (WriteString_any w x hb (by rw [h5]; exact in4) (Nat.le_refl _) (by omega)).mono ?_; rintro e w' ⟨rfl, hh⟩; exact ⟨rfl, RdrAt.wrote h5 h6 h7 hh⟩
def PartP (g : Nat) (s : ByteArray) (w : World) (v : Value) (k0 : Nat) (l : List UInt8) (q : PartR) (e : Ending) (w' : World) : Prop :=
 (q.2.2 = 0 /\ OkR g s w v (k0 + q.2.1) (l ++ un q.1) e w') \/ (q.2.2 ≠ 0 /\ BadR g w (q.2.2 : Nat) e w')
theorem strOf_size (l : List UInt8) : (strOf l).size = l.length := by simp [strOf, ByteArray.size]
theorem Beside.of_below {E : TypeId} {g : Nat} {w w' : World} (h : Below w.heap.size w w') : Beside E g w w' :=
 ⟨h.size, fun k o _ ho _ => (h.block k (Array.getElem?_eq_some_iff.1 ho).1).trans ho⟩
theorem RdrAt.below {w w' : World} {g : Nat} {s : ByteArray} {k : Nat} {l : List UInt8} (h : RdrAt w g s k l) (hb : Below w.heap.size w w') : RdrAt w' g s k l := by
 obtain ⟨cs, ⟨h1, h2, v, h3, h4⟩, h5⟩ := h; exact ⟨cs, ⟨h1.below hb h1.lt, h2, v, h3, h4.below hb (Nat.le_refl _)⟩, h5⟩
theorem number_any (w : World) (g : Nat) (s : ByteArray) (k : Nat) (l : List UInt8) (h : RdrAt w g s (k + 2) l) (hk : k + 2 <= s.size) (hs : s.size <= 1048576) (hl : l.length <= 9000000) :
  Calls Tryz.prog 208 #[.pointer (some ⟨g, 0, none⟩)] w (PartP g s w (.tuple #[]) k l (codedQ ((bs s).drop (k + 2)))) := by
 have h4 := four_any w g s (k + 2) l h hk hs; have hbase : g <= w.heap.size := Nat.le_of_lt h.lt; obtain ⟨r, hr⟩ : ∃ r, r = (bs s).drop (k + 2) := ⟨_, rfl⟩; rw [<- hr] at h4 ⊢
 by_cases hu : (unitQ r).2 = 0
 ·obtain ⟨hv1, hv2⟩ := unitQ_val hu
  obtain ⟨n, hn⟩ : ∃ n, n = (unitQ r).1 := ⟨_, rfl⟩; have hlen : k + 6 <= s.size := by rw [hr] at hv1; simp [bs_length] at hv1; omega
  rw [<- hn] at hv2
  have h4' : Calls Tryz.prog 226 #[.pointer (some ⟨g, 0, none⟩)] w (OkR g s w (.int .i64 (n : Int)) (k + 2 + 4) l) := h4.mono fun e w' h => by
   rcases h with ⟨_, h⟩ | ⟨h, _⟩
   ·rwa [hn]
   ·exact absurd hu h
  by_cases h1 : 56320 <= n /\ n <= 57343
  ·have HC : Hid (codedQ r = errR 3) := Lib.hid (by unfold codedQ; rw [if_neg (by simp [hu]), if_pos (by rw [<- hn]; exact h1)])
   clear h4 hu hn hr hv1; go_enter Tryz.func208, Tryz.ntmps208; go_wp2_with fail; refine h4'.mono ?_; rintro e w1 ⟨rfl, hR1, hb1, hB1⟩; go_wp2_with fail; refine (fail_any 3 _).mono ?_; rintro e w2 ⟨rfl, rfl⟩; go_wp2; exact ⟨rfl, .inr ⟨by rw [HC.out]; simp [errR], by rw [HC.out]; rfl, hb1⟩⟩
  ·by_cases h2 : n < 55296 \/ 57343 < n
   ·have HC : Hid (codedQ r = (putN n, 6, 0)) := Lib.hid (by unfold codedQ; rw [if_neg (by simp [hu]), if_neg (by rw [<- hn]; exact h1), if_pos (by rw [<- hn]; exact h2), <- hn])
    have hP := fun W => Put_any n W (by rw [isSc_iff]; omega); have hsz : (strOf (putU n)).size <= 4 := by rw [strOf_size, putU_length]; exact (wid_pos n).2
    clear h4 hu hn hr hv1; rcases h2 with h2 | h2
    all_goals
     go_enter Tryz.func208, Tryz.ntmps208; go_wp2_with fail; refine h4'.mono ?_; rintro e w1 ⟨rfl, hR1, hb1, hB1⟩; go_wp2_with fail; refine (hP _).mono ?_; rintro e w2 ⟨rfl, hb2⟩; have hR2 := hR1.below hb2; have hz2 := hb2.size; have hlt2 := hR1.lt; go_wp2_with fail; refine (rWS w2 g s _ l _ hR2 (by omega)).mono ?_; rintro e w3 ⟨rfl, hR3, hb3, hB3⟩; go_wp2; go_end0
     exact .inl ⟨by rw [HC.out], by rw [HC.out]; exact ⟨rfl, hR3, (hb1.trans (hb2.mono (by omega))).trans hb3, (hB1.trans (Beside.of_below hb2)).trans hB3⟩⟩
   ·have HC0 : Hid (codedQ r = lowQ n (r.drop 4)) := Lib.hid (by unfold codedQ; rw [if_neg (by simp [hu]), if_neg (by rw [<- hn]; exact h1), if_neg (by rw [<- hn]; exact h2), <- hn])
    have hr4 : r.drop 4 = (bs s).drop (k + 6) := by rw [hr, List.drop_drop]
    have hn3 : 55296 <= n /\ n <= 56319 := by omega
    have b1 : decide ((56320 : Int) <= (n : Int)) = false := by simp; omega
    have b2 : decide ((55296 : Int) <= (n : Int)) = true := by simp; omega
    have b3 : decide ((n : Int) <= 56319) = true := by simp; omega
    have HN3 := Lib.hid hn3; clear h4 hu hn hv1 h1 h2 hv2; have HR := Lib.hid hr; clear hr hn3
    cases hq : (bs s).drop (k + 6) with
    | nil =>
     have HC : Hid (codedQ r = errR 2) := Lib.hid (by rw [HC0.out, hr4, hq]; rfl); have hN := fun W h => rnext_nil W g s (k + 2 + 4) l h (by omega) hq hs; clear hq hr4; go_enter Tryz.func208, Tryz.ntmps208; go_wp2_with fail; refine h4'.mono ?_; rintro e w1 ⟨rfl, hR1, hb1, hB1⟩; go_wp2_with fail; refine (hN _ hR1).mono ?_; rintro e w2 ⟨rfl, hb2⟩; go_wp2; exact ⟨rfl, .inr ⟨by rw [HC.out]; simp [errR], by rw [HC.out]; rfl, hb1.trans hb2⟩⟩
    | cons c t =>
     have hN := fun W h => rnext_cons W g s (k + 2 + 4) l h hq hs; have hc : c < 256 := bs_lt c (List.mem_of_mem_drop (by rw [hq]; simp))
     by_cases hc92 : c = 92
     ·subst hc92
      obtain ⟨hd, hd2⟩ := drop_cons hq; rw [bs_length] at hd2; have hrt : r.drop 4 = 92 :: t := by rw [hr4, hq]
      cases ht : t with
      | nil =>
       have HC : Hid (codedQ r = errR 2) := Lib.hid (by rw [HC0.out, hrt, ht]; rfl); have hN2 := fun W h => rnext_nil W g s (k + 2 + 4 + 1) l h (by omega) (by rw [<- ht]; exact hd) hs; clear hq hr4 hrt ht hd; go_enter Tryz.func208, Tryz.ntmps208; go_wp2_with fail; refine h4'.mono ?_; rintro e w1 ⟨rfl, hR1, hb1, hB1⟩; go_wp2_with fail; refine (hN _ hR1).mono ?_; rintro e w2 ⟨rfl, hR2, hb2, hB2⟩; go_wp2_with fail; refine (hN2 _ hR2).mono ?_; rintro e w3 ⟨rfl, hb3⟩; go_wp2; exact ⟨rfl, .inr ⟨by rw [HC.out]; simp [errR], by rw [HC.out]; rfl, (hb1.trans hb2).trans hb3⟩⟩
      | cons d u =>
       subst ht; have hN2 := fun W h => rnext_cons W g s (k + 2 + 4 + 1) l h hd hs; have hdl : d < 256 := bs_lt d (List.mem_of_mem_drop (by rw [hd]; simp)); obtain ⟨he, he2⟩ := drop_cons hd; rw [bs_length] at he2
       by_cases hd117 : d = 117
       ·subst hd117
        have hF := fun W h => four_any W g s (k + 2 + 4 + 1 + 1) l h (by omega) hs; rw [show (bs s).drop (k + 2 + 4 + 1 + 1) = u from he] at hF; clear hq hr4 he hd
        by_cases hm : (unitQ u).2 = 0
        ·obtain ⟨hv3, hv4⟩ := unitQ_val hm
         obtain ⟨m, hmm⟩ : ∃ m, m = (unitQ u).1 := ⟨_, rfl⟩
         have hF' : ∀ W, RdrAt W g s (k + 2 + 4 + 1 + 1) l -> Calls Tryz.prog 226 #[.pointer (some ⟨g, 0, none⟩)] W (OkR g s W (.int .i64 (m : Int)) (k + 2 + 4 + 1 + 1 + 4) l) := fun W h => (hF W h).mono fun e w' h => by
          rcases h with ⟨_, h⟩ | ⟨h, _⟩
          ·rwa [hmm]
          ·exact absurd hm h
         rw [<- hmm] at hv4; clear hF
         by_cases hlow : m < 56320 \/ 57343 < m
         ·have HC : Hid (codedQ r = errR 3) := Lib.hid (by rw [HC0.out, hrt]; simp only [lowQ]; rw [if_neg (by simp), if_neg (by simp), if_neg (by simp [hm]), if_pos (by rw [<- hmm]; exact hlow)])
          clear hrt hm hmm; have HLOW := Lib.hid hlow; clear hlow hv4
          ·go_enter Tryz.func208, Tryz.ntmps208
           go_wp2_with fail; refine h4'.mono ?_; rintro e w1 ⟨rfl, hR1, hb1, hB1⟩; go_wp2_with fail; refine (hN _ hR1).mono ?_; rintro e w2 ⟨rfl, hR2, hb2, hB2⟩; go_wp2_with fail; refine (hN2 _ hR2).mono ?_; rintro e w3 ⟨rfl, hR3, hb3, hB3⟩; go_wp2_with fail; refine (hF' _ hR3).mono ?_; rintro e w4 ⟨rfl, hR4, hb4, hB4⟩
           have hlow2 : (decide ((m : Int) < 56320) = true) \/ (decide ((m : Int) < 56320) = false /\ decide ((57343 : Int) < (m : Int)) = true) := by
            rcases HLOW.out with hlow | hlow
            ·exact .inl (by simp; omega)
            ·exact .inr ⟨by simp; omega, by simp; omega⟩
           rcases hlow2 with hlow | ⟨hlow, hlow3⟩
           all_goals
            go_wp2_with fail; refine (fail_any 3 _).mono ?_; rintro e w5 ⟨rfl, rfl⟩; go_wp2; exact ⟨rfl, .inr ⟨by rw [HC.out]; simp [errR], by rw [HC.out]; rfl, ((hb1.trans hb2).trans hb3).trans hb4⟩⟩
         ·obtain ⟨x, hx⟩ : ∃ x, x = 65536 + (n - 55296) * 1024 + (m - 56320) := ⟨_, rfl⟩
          have HC : Hid (codedQ r = (putN x, 12, 0)) := Lib.hid (by rw [HC0.out, hrt]; simp only [lowQ]; rw [if_neg (by simp), if_neg (by simp), if_neg (by simp [hm]), if_neg (by rw [<- hmm]; exact hlow), hx, hmm]); have hP := fun W => Put_any x W (by have := HN3.out; rw [isSc_iff]; omega); have hsz : (strOf (putU x)).size <= 4 := by rw [strOf_size, putU_length]; exact (wid_pos x).2
          have hlow' : 56320 <= m /\ m <= 57343 := by omega
          have HLOW := Lib.hid hlow'; have hn3 := HN3.out; have E1 := Lib.hid (And.intro (show (0 : Int) <= (n : Int) - 55296 /\ (n : Int) - 55296 <= 1023 by omega) (And.intro (show (0 : Int) <= (m : Int) - 56320 /\ (m : Int) - 56320 <= 1023 by omega) (show (65536 : Int) + 1024 * ((n : Int) - 55296) + ((m : Int) - 56320) = (x : Int) by omega))); clear hrt hm hmm hx hlow hlow' hv4 hn3; go_enter Tryz.func208, Tryz.ntmps208; go_wp2_with fail; refine h4'.mono ?_; rintro e w1 ⟨rfl, hR1, hb1, hB1⟩; go_wp2_with fail; refine (hN _ hR1).mono ?_; rintro e w20 ⟨rfl, hR20, hb20, hB20⟩; go_wp2_with fail; refine (hN2 _ hR20).mono ?_; rintro e w30 ⟨rfl, hR30, hb30, hB30⟩; go_wp2_with fail; refine (hF' _ hR30).mono ?_; rintro e w40 ⟨rfl, hR40, hb40, hB40⟩; have hd3 : decide ((m : Int) < 56320) = false := by have := HLOW.out; simp; omega
          have hd4 : decide ((57343 : Int) < (m : Int)) = false := by have := HLOW.out; simp; omega
          obtain ⟨e1, e2, hxi⟩ := E1.out; go_wp2_with fail; refine (hP _).mono ?_; rintro e w2 ⟨rfl, hb2⟩; have hR2 := hR40.below hb2; have hz2 := hb2.size; have hlt2 := hR40.lt; go_wp2_with fail; refine (rWS w2 g s _ l _ hR2 (by omega)).mono ?_; rintro e w3 ⟨rfl, hR3, hb3, hB3⟩; go_wp2; go_end0
          exact .inl ⟨by rw [HC.out], by rw [HC.out]; exact ⟨rfl, hR3, ((((hb1.trans hb20).trans hb30).trans hb40).trans (hb2.mono (by omega))).trans hb3, ((((hB1.trans hB20).trans hB30).trans hB40).trans (Beside.of_below hb2)).trans hB3⟩⟩
        ·have HC : Hid (codedQ r = errR (unitQ u).2) := Lib.hid (by rw [HC0.out, hrt]; simp only [lowQ]; rw [if_neg (by simp), if_neg (by simp), if_pos (by simpa using hm)])
         have hF' : ∀ W, RdrAt W g s (k + 2 + 4 + 1 + 1) l -> Calls Tryz.prog 226 #[.pointer (some ⟨g, 0, none⟩)] W (BadR g W ((unitQ u).2 : Nat)) := fun W h => (hF W h).mono fun e w' h => by
          rcases h with ⟨h, _⟩ | ⟨_, h⟩
          ·exact absurd h hm
          ·exact h
         clear hF hrt; go_enter Tryz.func208, Tryz.ntmps208; go_wp2_with fail; refine h4'.mono ?_; rintro e w1 ⟨rfl, hR1, hb1, hB1⟩; go_wp2_with fail; refine (hN _ hR1).mono ?_; rintro e w2 ⟨rfl, hR2, hb2, hB2⟩; go_wp2_with fail; refine (hN2 _ hR2).mono ?_; rintro e w3 ⟨rfl, hR3, hb3, hB3⟩; go_wp2_with fail; refine (hF' _ hR3).mono ?_; rintro e w4 ⟨rfl, hb4⟩; go_wp2; exact ⟨rfl, .inr ⟨by rw [HC.out]; exact hm, by rw [HC.out]; rfl, ((hb1.trans hb2).trans hb3).trans hb4⟩⟩
       ·have HC : Hid (codedQ r = errR 3) := Lib.hid (by rw [HC0.out, hrt]; simp only [lowQ]; rw [if_neg (by simp), if_pos (by simpa using hd117)])
        have hbd : ((d : Int) != 117) = true := by rw [bne_iff_ne]; omega
        clear hq hr4 hrt hd he hd117; go_enter Tryz.func208, Tryz.ntmps208; go_wp2_with fail; refine h4'.mono ?_; rintro e w1 ⟨rfl, hR1, hb1, hB1⟩; go_wp2_with fail; refine (hN _ hR1).mono ?_; rintro e w2 ⟨rfl, hR2, hb2, hB2⟩; go_wp2_with fail; refine (hN2 _ hR2).mono ?_; rintro e w3 ⟨rfl, hR3, hb3, hB3⟩; go_wp2_with fail; refine (fail_any 3 _).mono ?_; rintro e w4 ⟨rfl, rfl⟩; go_wp2; exact ⟨rfl, .inr ⟨by rw [HC.out]; simp [errR], by rw [HC.out]; rfl, (hb1.trans hb2).trans hb3⟩⟩
     ·have HC : Hid (codedQ r = errR 3) := Lib.hid (by rw [HC0.out, hr4, hq]; simp only [lowQ]; rw [if_pos (by simpa using hc92)])
      have hbc : ((c : Int) != 92) = true := by rw [bne_iff_ne]; omega
      clear hq hr4 hc92; go_enter Tryz.func208, Tryz.ntmps208; go_wp2_with fail; refine h4'.mono ?_; rintro e w1 ⟨rfl, hR1, hb1, hB1⟩; go_wp2_with fail; refine (hN _ hR1).mono ?_; rintro e w2 ⟨rfl, hR2, hb2, hB2⟩; go_wp2_with fail; refine (fail_any 3 _).mono ?_; rintro e w3 ⟨rfl, rfl⟩; go_wp2; exact ⟨rfl, .inr ⟨by rw [HC.out]; simp [errR], by rw [HC.out]; rfl, hb1.trans hb2⟩⟩
 ·have h4' : Calls Tryz.prog 226 #[.pointer (some ⟨g, 0, none⟩)] w (BadR g w ((unitQ r).2 : Nat)) := h4.mono fun e w' h => by
   rcases h with ⟨h, _⟩ | ⟨_, h⟩
   ·exact absurd h hu
   ·exact h
  have HC : Hid (codedQ r = errR (unitQ r).2) := Lib.hid (by unfold codedQ; rw [if_pos (by simpa using hu)]); clear h4; have HR := Lib.hid hr; clear hr; go_enter Tryz.func208, Tryz.ntmps208; go_wp2_with fail; refine h4'.mono ?_; rintro e w1 ⟨rfl, hb1⟩; go_wp2; exact ⟨rfl, .inr ⟨by rw [HC.out]; exact hu, by rw [HC.out]; rfl, hb1⟩⟩
theorem escape_any (w : World) (g : Nat) (s : ByteArray) (k : Nat) (l : List UInt8) (h : RdrAt w g s (k + 1) l) (hk : k + 1 <= s.size) (hs : s.size <= 1048576) (hl : l.length <= 9000000) :
  Calls Tryz.prog 182 #[.pointer (some ⟨g, 0, none⟩)] w (PartP g s w (.tuple #[]) k l (escQ ((bs s).drop (k + 1)))) := by
 obtain ⟨r, hr⟩ : ∃ r, r = (bs s).drop (k + 1) := ⟨_, rfl⟩; rw [<- hr]
 cases hq : r with
 | nil =>
  have hN := fun W h => rnext_nil W g s (k + 1) l h hk (by rw [<- hr]; exact hq) hs; have HC : Hid (escQ r = errR 2) := Lib.hid (by rw [hq]; rfl); rw [<- hq]; have HR := Lib.hid hr; clear hq hr; go_enter Tryz.func182, Tryz.ntmps182; go_wp2_with fail; refine (hN _ h).mono ?_; rintro e w1 ⟨rfl, hb1⟩; go_wp2; exact ⟨rfl, .inr ⟨by rw [HC.out]; simp [errR], by rw [HC.out]; rfl, hb1⟩⟩
 | cons c t =>
  rw [<- hq]; have hN0 : (bs s).drop (k + 1) = c :: t := by rw [<- hr]; exact hq
  have hN := fun W h => rnext_cons W g s (k + 1) l h hN0 hs; have hc : c < 256 := bs_lt c (List.mem_of_mem_drop (by rw [hN0]; simp)); have HR := Lib.hid hr; clear hr
  by_cases hc34 : c = 34
  ·subst hc34
   have HC : Hid (escQ r = ([34], 2, 0)) := Lib.hid (by rw [hq]; rfl); clear hq hN0; go_enter Tryz.func182, Tryz.ntmps182; go_wp2_with fail; refine (hN _ h).mono ?_; rintro e w1 ⟨rfl, hR1, hb1, hB1⟩; go_wp2_with fail; refine (rWB w1 g s _ l 34 _ (by first | rfl | decide) (by omega) hR1 (by omega)).mono ?_; rintro e w2 ⟨rfl, hR2, hb2, hB2⟩; go_wp2; go_end0
   exact .inl ⟨by rw [HC.out], by rw [HC.out]; exact ⟨rfl, hR2, hb1.trans hb2, hB1.trans hB2⟩⟩
  by_cases hc92 : c = 92
  ·subst hc92
   have HC : Hid (escQ r = ([92], 2, 0)) := Lib.hid (by rw [hq]; rfl); clear hq hN0; go_enter Tryz.func182, Tryz.ntmps182; go_wp2_with fail; refine (hN _ h).mono ?_; rintro e w1 ⟨rfl, hR1, hb1, hB1⟩; go_wp2_with fail; refine (rWB w1 g s _ l 92 _ (by first | rfl | decide) (by omega) hR1 (by omega)).mono ?_; rintro e w2 ⟨rfl, hR2, hb2, hB2⟩; go_wp2; go_end0
   exact .inl ⟨by rw [HC.out], by rw [HC.out]; exact ⟨rfl, hR2, hb1.trans hb2, hB1.trans hB2⟩⟩
  by_cases hc47 : c = 47
  ·subst hc47
   have HC : Hid (escQ r = ([47], 2, 0)) := Lib.hid (by rw [hq]; rfl); clear hq hN0; go_enter Tryz.func182, Tryz.ntmps182; go_wp2_with fail; refine (hN _ h).mono ?_; rintro e w1 ⟨rfl, hR1, hb1, hB1⟩; go_wp2_with fail; refine (rWB w1 g s _ l 47 _ (by first | rfl | decide) (by omega) hR1 (by omega)).mono ?_; rintro e w2 ⟨rfl, hR2, hb2, hB2⟩; go_wp2; go_end0
   exact .inl ⟨by rw [HC.out], by rw [HC.out]; exact ⟨rfl, hR2, hb1.trans hb2, hB1.trans hB2⟩⟩
  by_cases hc98 : c = 98
  ·subst hc98
   have HC : Hid (escQ r = ([8], 2, 0)) := Lib.hid (by rw [hq]; rfl); clear hq hN0; go_enter Tryz.func182, Tryz.ntmps182; go_wp2_with fail; refine (hN _ h).mono ?_; rintro e w1 ⟨rfl, hR1, hb1, hB1⟩; go_wp2_with fail; refine (rWB w1 g s _ l 8 _ (by first | rfl | decide) (by omega) hR1 (by omega)).mono ?_; rintro e w2 ⟨rfl, hR2, hb2, hB2⟩; go_wp2; go_end0
   exact .inl ⟨by rw [HC.out], by rw [HC.out]; exact ⟨rfl, hR2, hb1.trans hb2, hB1.trans hB2⟩⟩
  by_cases hc102 : c = 102
  ·subst hc102
   have HC : Hid (escQ r = ([12], 2, 0)) := Lib.hid (by rw [hq]; rfl); clear hq hN0; go_enter Tryz.func182, Tryz.ntmps182; go_wp2_with fail; refine (hN _ h).mono ?_; rintro e w1 ⟨rfl, hR1, hb1, hB1⟩; go_wp2_with fail; refine (rWB w1 g s _ l 12 _ (by first | rfl | decide) (by omega) hR1 (by omega)).mono ?_; rintro e w2 ⟨rfl, hR2, hb2, hB2⟩; go_wp2; go_end0
   exact .inl ⟨by rw [HC.out], by rw [HC.out]; exact ⟨rfl, hR2, hb1.trans hb2, hB1.trans hB2⟩⟩
  by_cases hc110 : c = 110
  ·subst hc110
   have HC : Hid (escQ r = ([10], 2, 0)) := Lib.hid (by rw [hq]; rfl); clear hq hN0; go_enter Tryz.func182, Tryz.ntmps182; go_wp2_with fail; refine (hN _ h).mono ?_; rintro e w1 ⟨rfl, hR1, hb1, hB1⟩; go_wp2_with fail; refine (rWB w1 g s _ l 10 _ (by first | rfl | decide) (by omega) hR1 (by omega)).mono ?_; rintro e w2 ⟨rfl, hR2, hb2, hB2⟩; go_wp2; go_end0
   exact .inl ⟨by rw [HC.out], by rw [HC.out]; exact ⟨rfl, hR2, hb1.trans hb2, hB1.trans hB2⟩⟩
  by_cases hc114 : c = 114
  ·subst hc114
   have HC : Hid (escQ r = ([13], 2, 0)) := Lib.hid (by rw [hq]; rfl); clear hq hN0; go_enter Tryz.func182, Tryz.ntmps182; go_wp2_with fail; refine (hN _ h).mono ?_; rintro e w1 ⟨rfl, hR1, hb1, hB1⟩; go_wp2_with fail; refine (rWB w1 g s _ l 13 _ (by first | rfl | decide) (by omega) hR1 (by omega)).mono ?_; rintro e w2 ⟨rfl, hR2, hb2, hB2⟩; go_wp2; go_end0
   exact .inl ⟨by rw [HC.out], by rw [HC.out]; exact ⟨rfl, hR2, hb1.trans hb2, hB1.trans hB2⟩⟩
  by_cases hc116 : c = 116
  ·subst hc116
   have HC : Hid (escQ r = ([9], 2, 0)) := Lib.hid (by rw [hq]; rfl); clear hq hN0; go_enter Tryz.func182, Tryz.ntmps182; go_wp2_with fail; refine (hN _ h).mono ?_; rintro e w1 ⟨rfl, hR1, hb1, hB1⟩; go_wp2_with fail; refine (rWB w1 g s _ l 9 _ (by first | rfl | decide) (by omega) hR1 (by omega)).mono ?_; rintro e w2 ⟨rfl, hR2, hb2, hB2⟩; go_wp2; go_end0
   exact .inl ⟨by rw [HC.out], by rw [HC.out]; exact ⟨rfl, hR2, hb1.trans hb2, hB1.trans hB2⟩⟩
  have hno : escB c = none := by
   unfold escB; rw [if_neg (by omega), if_neg hc98, if_neg hc102, if_neg hc110, if_neg hc114, if_neg hc116]
  by_cases hc117 : c = 117
  ·subst hc117
   obtain ⟨hd1, hd2⟩ := drop_cons hN0; rw [bs_length] at hd2; have hnum := fun W h => number_any W g s k l h (by omega) hs hl; rw [show (bs s).drop (k + 2) = t from hd1] at hnum; have HC : Hid (escQ r = codedQ t) := Lib.hid (by rw [hq]; rfl); clear hq hN0 hno hd1 hc34 hc92 hc47 hc98 hc102 hc110 hc114 hc116; go_enter Tryz.func182, Tryz.ntmps182; go_wp2_with fail; refine (hN _ h).mono ?_; rintro e w1 ⟨rfl, hR1, hb1, hB1⟩; go_wp2_with fail; refine (hnum _ hR1).mono ?_; rintro e w2 (⟨h0, rfl, hR2, hb2, hB2⟩ | ⟨h0, rfl, hb2⟩)
   ·have H0 := Lib.hid h0
    clear h0; go_wp2; go_end0
    exact .inl ⟨by rw [HC.out]; exact H0.out, by rw [HC.out]; exact ⟨rfl, hR2, hb1.trans hb2, hB1.trans hB2⟩⟩
   ·have H0 := Lib.hid h0
    clear h0; go_wp2; exact ⟨rfl, .inr ⟨by rw [HC.out]; exact H0.out, by rw [HC.out]; exact ⟨rfl, hb1.trans hb2⟩⟩⟩
  ·have HC : Hid (escQ r = errR 3) := Lib.hid (by rw [hq]; simp only [escQ, hno, if_neg hc117])
   have b1 : ((c : Int) == 34) = false := by rw [beq_eq_false_iff_ne]; omega
   have b2 : ((c : Int) == 92) = false := by rw [beq_eq_false_iff_ne]; omega
   have b3 : ((c : Int) == 47) = false := by rw [beq_eq_false_iff_ne]; omega
   have b4 : ((c : Int) == 98) = false := by rw [beq_eq_false_iff_ne]; omega
   have b5 : ((c : Int) == 102) = false := by rw [beq_eq_false_iff_ne]; omega
   have b6 : ((c : Int) == 110) = false := by rw [beq_eq_false_iff_ne]; omega
   have b7 : ((c : Int) == 114) = false := by rw [beq_eq_false_iff_ne]; omega
   have b8 : ((c : Int) == 116) = false := by rw [beq_eq_false_iff_ne]; omega
   have b9 : ((c : Int) == 117) = false := by rw [beq_eq_false_iff_ne]; omega
   clear hq hN0 hno hc34 hc92 hc47 hc98 hc102 hc110 hc114 hc116 hc117; go_enter Tryz.func182, Tryz.ntmps182; go_wp2_with fail; refine (hN _ h).mono ?_; rintro e w1 ⟨rfl, hR1, hb1, hB1⟩; go_wp2_with fail; refine (fail_any 3 _).mono ?_; rintro e w2 ⟨rfl, rfl⟩; go_wp2; exact ⟨rfl, .inr ⟨by rw [HC.out]; simp [errR], by rw [HC.out]; rfl, hb1⟩⟩
section
variable {w : World} {ops : Array Oper} {rest : List Oper} {o : Oper} {a : Act} {Q : Exit -> Act -> World -> Prop}
end
end Go.Proofs.YtbcdaaobbebooaaGreatDoor
namespace Go.Proofs.YtbcdaaobbebooaaGreatDoor
set_option maxRecDepth 100000
set_option maxHeartbeats 20000000
open Go.RowKit Go.Tab Go.Shelf
attribute [local go_sem] Oper.semAt_some
theorem uAll_any (s : ByteArray) (w : World) :
  Calls Tryz.prog 189 #[.string s] w fun e w' => e = .returned (.func (.func 212) #[] #[.pointer (some ⟨w.heap.size, 0, none⟩)]) /\ w' = w.alloc (.cells #[.string s] 9) := by
 go_enter Tryz.func189, Tryz.ntmps189; go_wp2; go_ret; exact ⟨rfl, rfl⟩
def TwoKept (g : Nat) (A B : World) : Prop := A.heap.size <= B.heap.size /\ B.heap[1]? = A.heap[1]? /\ B.heap[g]? = A.heap[g]?
theorem TwoKept.refl (g : Nat) (A : World) : TwoKept g A A := ⟨Nat.le_refl _, rfl, rfl⟩
theorem TwoKept.trans {g : Nat} {A B C : World} (h : TwoKept g A B) (h2 : TwoKept g B C) : TwoKept g A C := ⟨Nat.le_trans h.1 h2.1, h2.2.1.trans h.2.1, h2.2.2.trans h.2.2⟩
theorem TwoKept.tab {g : Nat} {A B : World} (h : TwoKept g A B) (hT : Tab A) : Tab B := fun j hj => (World.cell?_of_block h.2.1).trans (hT j hj)
theorem TwoKept.box {g : Nat} {A B : World} (h : TwoKept g A B) {v : Value} (hc : A.cell? ⟨g, 0, none⟩ = some v) : B.cell? ⟨g, 0, none⟩ = some v := (World.cell?_of_block h.2.2).trans hc
theorem uAll1_in (n : Nat) (hn : 2 <= n) (l0 Bn : Nat) (s : ByteArray) (hs : s.size <= 1048576) (J Jx : List (Nat × Nat) -> World -> Prop)
  (hY : ∀ pre x W, J pre W -> pre.length < (scan (bs s) 0).1.length -> YieldAt Fence.wide (n - 1) Tryz.prog l0 #[.int .i64 (x.1 : Nat), .int .i64 (x.2 : Nat)] W fun e W' =>
   (e = .returned (.bool true) /\ J (pre ++ [x]) W' /\ TwoKept Bn W W') \/ (e = .returned (.bool false) /\ Jx (pre ++ [x]) W'))
  (W : World) (hBn : W.cell? ⟨Bn, 0, none⟩ = some (.string s)) (hT : Tab W) (h0 : J [] W) :
  CallsIn Fence.wide n Tryz.prog 212 #[.func (.yield l0) #[] #[], .pointer (some ⟨Bn, 0, none⟩)] W fun e W' => (∃ v, e = .returned v) /\
   ((∃ ys, ys = (scan (bs s) 0).1 /\ J ys W') \/ (∃ pre, pre <+: (scan (bs s) 0).1 /\ Jx pre W')) := by
 refine callsIn_of_wp Tryz.func212 rfl trivial ?_ rfl; simp only [Tryz.ntmps212, List.size_toArray, List.length_cons, List.length_nil, Nat.reduceAdd, Nat.reduceSub, Array.replicate_succ, Array.replicate_zero, List.push_toArray, List.append_toArray, List.nil_append, List.cons_append]
 gi_wp2
 gi_loopw [3] (fun i wr => ∃ (k : Nat) (pre : List (Nat × Nat)), i = .int .i64 k /\ k <= s.size /\ Rest (bs s) k pre /\ J pre wr /\ TwoKept Bn W wr)
  (fun i wr => s.size - (intOf i).toNat)
 case atStart => exact ⟨0, [], rfl, Nat.zero_le _, Rest.zero _, h0, TwoKept.refl _ _⟩
 case round =>
  obtain ⟨k, pre, rfl, hk, hr, hJ, hb⟩ := hrel; have HR := Lib.hid hr; have hbx := hb.box hBn; have hTr := hb.tab hT; clear hr
  by_cases h : k < s.size
  ·obtain ⟨c, m, h1⟩ : ∃ c m, oneN ((bs s).drop k) = (c, m) := ⟨_, _, rfl⟩
   have hle := (oneN_le ((bs s).drop k) (fun x hx => bs_lt x (List.mem_of_mem_drop hx))).1; have hF := first_any s k wr hTr (by omega); unfold firstPost at hF; rw [h1] at hF hle; simp only [List.length_drop, bs_length] at hle; have H1 := Lib.hid h1; have HF := Lib.hid hF; clear h1 hF
   by_cases hm : m = 0
   ·subst hm
    have h2 := Lib.hid (HR.out.bad (by rw [bs_length]; exact h) (by rw [H1.out])); clear hY
    gi_wp2
    refine ⟨trivial, fun _ => by omega, ?_⟩; refine (callsIn_wide.2 HF.out).mono ?_; rintro e w9 ⟨rfl, rfl⟩; clear HF
    gi_wp2
    refine ⟨fun _ h => (by cases h), ?_⟩
    gi_wp2
    refine bodyPost_ret (results_none rfl _ _ _) rfl ?_; exact ⟨⟨_, rfl⟩, .inl ⟨pre, by rw [h2.out], hJ⟩⟩
   ·have h2 := Lib.hid (HR.out.good (by rw [bs_length]; exact h) H1.out hm)
    have hbn : ((m : Int) == 0) = false := by rw [beq_eq_false_iff_ne]; omega
    have hm1 : 1 <= m := by omega
    have hlt : pre.length < (scan (bs s) 0).1.length := by rw [h2.out]; simp
    obtain ⟨fn, tmps, assign, body, hy, hR⟩ := hY pre (k, c) wr hJ hlt; have hpre : Hid (pre ++ [(k, c)] <+: (scan (bs s) 0).1) := Lib.hid ⟨(scan ((bs s).drop (k + m)) (k + m)).1, by rw [h2.out]⟩; clear hm hY
    gi_wp2
    refine ⟨trivial, fun _ => by omega, ?_⟩; refine (callsIn_wide.2 HF.out).mono ?_; rintro e w9 ⟨rfl, rfl⟩; clear HF
    gi_wp2
    refine ⟨fun _ => by omega, hR.mono ?_⟩; rintro e W3 (⟨rfl, hJ3, hk3⟩ | ⟨rfl, hJx3⟩)
    ·gi_wp2
     refine ⟨⟨k + m, pre ++ [(k, c)], by go_num, by omega, h2.out, hJ3, hb.trans hk3⟩, ?_⟩; simp [intOf]; omega
    ·gi_wp2
     refine bodyPost_ret (results_none rfl _ _ _) rfl ?_; exact ⟨⟨_, rfl⟩, .inr ⟨_, hpre.out, hJx3⟩⟩
  ·have h2 := Lib.hid (HR.out.done (by rw [bs_length]; omega))
   clear hY
   gi_wp2
   refine bodyPost_end (results_none rfl _ _ _) rfl ?_; exact ⟨⟨_, rfl⟩, .inl ⟨pre, by rw [h2.out], hJ⟩⟩
attribute [local go_sem] Oper.semAt_some
theorem oneN_take4 (l : List Nat) : oneN (l.take 4) = oneN l := by
 match l with
 | [] => rfl
 | [_] => rfl
 | [_, _] => rfl
 | [_, _, _] => rfl
 | [_, _, _, _] => rfl
 | a :: b :: c :: d :: e :: r => rfl
def OkW (g : Nat) (s : ByteArray) (w : World) (v : Value) (k' : Nat) (l' : List UInt8) (e : Ending) (w' : World) : Prop :=
 e = .returned v /\ RdrAt w' g s k' l' /\ Below g w w'
def ScalP (g : Nat) (s : ByteArray) (w : World) (k : Nat) (l : List UInt8) (L : List Nat) (e : Ending) (w' : World) : Prop :=
 ((oneN L).2 ≠ 0 /\ OkW g s w (.tuple #[]) (k + (oneN L).2) (l ++ un (L.take (oneN L).2)) e w') \/ ((oneN L).2 = 0 /\ BadR g w 7 e w')
theorem extract_bs (s : ByteArray) (a b : Nat) : bs (s.extract a b) = ((bs s).drop a).take (b - a) := by
 simp [bs, List.map_drop, List.map_take, List.drop_take]
def putX (c : Nat) : List UInt8 := if isSc c then putU c else []
theorem putX_len (c : Nat) : (putX c).length <= 4 := by
 unfold putX; split
 ·rw [putU_length]; exact (wid_pos c).2
 ·simp
theorem PutX_any (c : Nat) (w : World) : Calls Tryz.prog 209 #[.int .i64 c] w fun e w' => e = .returned (.tuple #[.string (strOf (putX c)), .bool (isSc c)]) /\ Below w.heap.size w w' := by
 unfold putX
 cases h : isSc c with
 | true =>
  refine (Put_any c w h).mono ?_; rintro e w' ⟨rfl, hb⟩; exact ⟨by simp, hb⟩
 | false =>
  refine (Put_none (c : Int) w (by rw [isScI_nat]; exact h)).mono ?_; rintro e w' ⟨rfl, rfl⟩; exact ⟨rfl, Below.refl _ _⟩
theorem RdrAt.kept {w w' : World} {g : Nat} {s : ByteArray} {k : Nat} {l : List UInt8} {row : Option Nat} (h : RdrAt w g s k l) (hg : w.grownBy w' row) (hr : ∀ r, row = some r -> ∃ o : Obj, w.heap[r]? = some o /\ o.isCells = false) : RdrAt w' g s k l := by
 obtain ⟨cs, ⟨h1, h2, v, h3, h4⟩, h5⟩ := h
 have hrow : v.ownBlock = none \/ v.ownBlock ≠ row := by
  cases hv : v.ownBlock with
  | none => exact .inl rfl
  | some b =>
   refine .inr fun e => ?_; obtain ⟨o, ho, hc⟩ := hr _ e.symm; obtain ⟨cs', fr, hb⟩ := own_is_row h4 b hv; rw [hb] at ho; cases ho; cases hc
 refine ⟨cs, ⟨h1.kept hg ?_, h2, v, h3, h4.kept hg hrow⟩, h5⟩; intro e; obtain ⟨o, ho, hc⟩ := hr _ e.symm; rw [show w.heap[g]? = _ from h1] at ho; cases ho; cases hc
theorem keeps_beside {E : TypeId} {B g : Nat} {w w' : World} {cs : Array Value} {t : TypeId} (h : Beside E g w w') (hg : Cells w g cs t) : KeepsFrom B w w' :=
 ⟨h.1, fun k o _ hk ho => h.2 k o (by rintro rfl; rw [show w.heap[k]? = _ from hg] at hk; cases hk; cases ho) hk (fun cs' fr e => by subst e; cases ho)⟩
def ScI (w : World) (g : Nat) (s : ByteArray) (k : Nat) (l : List UInt8) (pre : List (Nat × Nat)) (W : World) : Prop :=
 (pre = [] /\ RdrAt W g s k l /\ Cells W w.heap.size #[.pointer (some ⟨g, 0, none⟩)] 178) /\ Below g w W
def ScX (w : World) (g : Nat) (s : ByteArray) (k : Nat) (l : List UInt8) (c : Code) (pre : List (Nat × Nat)) (W : World) : Prop :=
 (c = .ret /\ ∃ x : Nat × Nat, pre = [x] /\ RdrAt W g s (k + (putX x.2).length) (l ++ putX x.2)) /\ Below g w W
theorem ScI_own (w : World) (g : Nat) (s : ByteArray) (k : Nat) (l : List UInt8) (L : Nat) (hg : g <= w.heap.size) (hL : g <= L) : OwnFrom L (ScI w g s k l) :=
 OwnFrom.and (Own.from (fun pre A B row hs hg' hr => ⟨hs.1, hs.2.1.kept hg' hr, hs.2.2.kept hg' (fun e' => by
  obtain ⟨o, ho, hc⟩ := hr _ e'.symm
  rw [show A.heap[w.heap.size]? = _ from hs.2.2] at ho; cases ho; cases hc)⟩) _) (ownFrom_below hg hL)
theorem ScX_own (w : World) (g : Nat) (s : ByteArray) (k : Nat) (l : List UInt8) (L : Nat) (hg : g <= w.heap.size) (hL : g <= L) (c : Code) : OwnFrom L (ScX w g s k l c) :=
 OwnFrom.and (Own.from (fun pre A B row hs hg' hr => by
  obtain ⟨h1, x, h2, h3⟩ := hs
  exact ⟨h1, x, h2, h3.kept hg' hr⟩) _) (ownFrom_below hg hL)
theorem TwoKept.put (g : Nat) (w : World) (h0 : 1 < w.heap.size) (hg : g < w.heap.size) (W : World) (l : Nat) (o o' : Obj) (hl : w.heap.size <= l) (_ : W.heap[l]? = some o) (_ : o.isCells = false) (_ : o.isWalk = false) : TwoKept g W (W.putObj l o') :=
 ⟨(grownBy_putObj' W l o').size, World.putObj_heap_other (by omega), World.putObj_heap_other (by omega)⟩
theorem uAll_stops (n : Nat) (hn : 2 <= n) (Bn : Nat) (s : ByteArray) (hs : s.size <= 1048576) (w : World) (hBn : Bn < w.heap.size)
  (hc : w.cell? ⟨Bn, 0, none⟩ = some (.string s)) (hT : Tab w) :
  SeqStopsK Fence.wide n Tryz.prog 212 #[.pointer (some ⟨Bn, 0, none⟩)] (fun x : Nat × Nat => #[.int .i64 (x.1 : Nat), .int .i64 (x.2 : Nat)]) (TwoKept Bn) (fun ys => ys = (scan (bs s) 0).1) (fun pre => pre <+: (scan (bs s) 0).1) (scan (bs s) 0).1.length w := fun l0 J Jx W hW _ _ hY h0 =>
 uAll1_in n hn l0 Bn s hs J Jx hY W ((hW.cell (p := ⟨Bn, 0, none⟩) hBn).trans hc) (hT.below hW hT.pos) h0
theorem scalar_any (w : World) (g : Nat) (s : ByteArray) (k : Nat) (l : List UInt8) (h : RdrAt w g s k l) (hk : k < s.size) (hs : s.size <= 1048576) (hl : l.length <= 9000000) (hT : Tab w) :
  Calls Tryz.prog 184 #[.pointer (some ⟨g, 0, none⟩)] w (ScalP g s w k l ((bs s).drop k)) := by
 refine (callsIn_wide (n := 9)).1 ?_; have hR0 := h.below ((Below.refl _ w).alloc (Nat.le_refl _) (.cells #[.pointer (some ⟨g, 0, none⟩)] 178)); have hlt := h.lt; obtain ⟨cs, hb, h5, h6, h7⟩ := id hR0; have c0 := hb.cells.cell 0 _ h6; have c1 := hb.cells.cell 1 _ h7; have c9 := (Cells.new w #[.pointer (some ⟨g, 0, none⟩)] 178).cell 0 _ rfl; clear hb h5 h6 h7
 by_cases hk4 : k + 4 <= s.size
 ·have hmin : min ((k : Int) + 4) (s.size : Int) = (k : Int) + 4 := by omega
  obtain ⟨R, hR⟩ : ∃ R, R = s.extract k ((k : Int) + 4).toNat := ⟨_, rfl⟩; refine callsIn_of_wp_marks Tryz.func184 rfl trivial ?_ rfl; simp only [Tryz.ntmps184, List.size_toArray, List.length_cons, List.length_nil, Nat.reduceAdd, Nat.reduceSub, Array.replicate_succ, Array.replicate_zero, List.push_toArray, List.append_toArray, List.nil_append, List.cons_append]; have hRr := Lib.hid hR; have hsl : s.extract k ((k : Int) + 4).toNat = R := hR.symm
  gi_wp2
  have hRb : bs R = ((bs s).drop k).take 4 := by rw [hR, extract_bs]; congr 1; omega
  have hRne : bs R ≠ [] := by rw [hRb]; intro h0; have := congrArg List.length h0; simp [bs_length] at this; omega
  clear hR
  gi_quiet (fail)
  have hw0 : ∃ w0, w0 = (w.alloc (.cells #[.pointer (some ⟨g, 0, none⟩)] 178)).drewN nq := ⟨_, rfl⟩; obtain ⟨w0, hw0⟩ := hw0; rw [<- hw0]; have hR1 : RdrAt w0 g s k l := by rw [hw0]; exact hR0.drewN _
  have hC1 : Cells w0 w.heap.size #[.pointer (some ⟨g, 0, none⟩)] 178 := by rw [hw0]; exact (Cells.new w _ _).drewN _
  have hb1 : Below w.heap.size w w0 := by rw [hw0]; exact Below.drewN' ((Below.refl _ w).alloc (Nat.le_refl _) _) _
  have hz0 : w0.heap.size = w.heap.size + 1 := by rw [hw0]; simp
  have HA := Lib.hid (uAll_any R w0); have HZ := Lib.hid hz0; clear c0 c1 c9 hw0 hmin hz0
  gi_wp2
  refine ⟨trivial, (callsIn_wide.2 HA.out).mono ?_⟩; rintro e w1 ⟨rfl, hw1⟩; clear HA; have hz0 := HZ.out; have hz1 : w1.heap.size = w.heap.size + 2 := by rw [hw1]; simp [hz0]
  have hb2' : Below w0.heap.size w0 w1 := by rw [hw1]; exact (Below.refl _ _).alloc (Nat.le_refl _) _
  have hcB : w1.cell? ⟨w.heap.size + 1, 0, none⟩ = some (.string R) := by
   have h := World.cell?_alloc_new (w := w0) #[.string R] 9 0; rw [hz0] at h; rw [hw1]; exact h
  have hR2 := hR1.below hb2'; have hC2 := hC1.below hb2' hC1.lt; have hb2 : Below w.heap.size w w1 := hb1.trans (hb2'.mono (by omega)); have hT1 := hT.below hb2 hT.pos; have h0w := hT.pos; rw [hz0]; clear hw1 hb2' hR1 hC1 hb1 hz0; have hneq : Sem.run Tryz.prog (binOp .neq 216 (Value.func (Fn.func 212) #[] #[Value.pointer (some { block := w.heap.size + 1, off := 0 })]) Value.nilFunc) w1 = .ok (.bool true) w1 := by rfl
  gi_wp2
  have hwL : g <= w1.heap.size := by omega
  refine wpIn_rangeFunc_ownG rfl (by omega) (gf := 212) (lb := #[.pointer (some ⟨w.heap.size + 1, 0, none⟩)]) rfl trivial (enters_of Tryz.func212 (by kernel_rfl) rfl)
   (uAll_stops 8 (by omega) (w.heap.size + 1) R (by rw [<- bs_length, hRb]; simp; omega) w1 (by omega) hcB hT1) TwoKept.trans (TwoKept.put (w.heap.size + 1) w1 (by omega) (by omega)) (Below.refl _ _) (fun _ => rfl)
   (ScI w g s k l) (ScX w g s k l) (ScI_own w g s k l _ (by omega) hwL) (ScX_own w g s k l _ (by omega) hwL)
   ⟨⟨rfl, hR2, hC2⟩, hb2.mono (by omega)⟩
   (fun x => { tmps := #[.pointer (some ⟨g, 0, none⟩), .pointer (some ⟨w.heap.size, 0, none⟩), .string R, undef, .int .i64 (x.2 : Nat), undef, undef, .pointer (some ⟨g, 0, none⟩), .pointer (some ⟨g, 0, none⟩), .pointer (some ⟨g, 0, none⟩), .string s, .pointer (some ⟨g, 0, none⟩), .pointer (some ⟨g, 0, none⟩), .pointer (some ⟨g, 1, none⟩), .int .i64 (k : Int), .pointer (some ⟨g, 0, none⟩), .pointer (some ⟨g, 0, none⟩), .pointer (some ⟨g, 1, none⟩), .int .i64 (k : Int), .int .i64 ((k : Int) + 4), .pointer (some ⟨g, 0, none⟩), .pointer (some ⟨g, 0, none⟩), .pointer (some ⟨g, 0, none⟩), .string s, .int .i64 (s.size : Int), .int .i64 ((k : Int) + 4), .string R, .string R, .func (.func 212) #[] #[.pointer (some ⟨w.heap.size + 1, 0, none⟩)], .int .i64 (x.1 : Nat), .int .i64 (x.2 : Nat), undef, undef, undef, undef, undef, undef, undef, undef, undef, undef, undef, undef, undef, undef, undef, undef, undef, undef, undef, undef], defers := [] }) ?assign ?body ?done ?stop
  case assign =>
   intro l x W K hK
   gi_wp2
   exact hK
  case body =>
   rintro l0 pre x W ⟨⟨rfl, hRW, hCW⟩, hbW⟩ -; have hltW := hRW.lt; have hPX := PutX_any x.2 W; have hplen := putX_len x.2; have hpsz : (strOf (putX x.2)).size = (putX x.2).length := strOf_size _; generalize hpx : putX x.2 = px at *; have HPX := Lib.hid hpx; have HPS := Lib.hid hpsz; clear hpx hpsz; have hcw := hCW.cell 0 _ rfl
   gi_wp2
   refine ⟨trivial, (CallsIn.inRound l0 (callsIn_wide.2 hPX)).mono ?_⟩; rintro e w3 ⟨rfl, hb3⟩; have hz3 := hb3.size; have hR3 := hRW.below hb3; have hC3 := hCW.below hb3 hCW.lt; have hcw3 := hC3.cell 0 _ rfl; have hWS := rWS w3 g s k l (strOf px) hR3 (by rw [HPS.out]; omega)
   gi_wp2
   refine ⟨trivial, (CallsIn.inRound l0 (callsIn_wide.2 hWS)).mono ?_⟩; rintro e w4 ⟨rfl, hR4, hb4, hB4⟩; obtain ⟨cs4, hb4', h54, h64, h74⟩ := id hR4; have c14 := hb4'.cells.cell 1 _ h74; have f14 := hb4'.cells.frozen 1; have hC4 := hB4.cells hC3 (by omega) (by decide); have hcw4 := hC4.cell 0 _ rfl; clear hb4' h54 h64 h74; have hR5 := hR4.moved (k + px.length); obtain ⟨cw, hcw', -⟩ := id hRW; have hkeep := keeps_beside (B := w1.heap.size) (((Beside.of_below (E := 5) (g := g) hb3).trans hB4).setCell 1 (.int .i64 ((k + px.length : Nat) : Int))) hcw'.cells; have hbW5 := ((hbW.trans (hb3.mono (by omega))).trans hb4).setCell (p := ⟨g, 1, none⟩) (Nat.le_refl _) (.int .i64 ((k + px.length : Nat) : Int)); have hl4 := HPS.out
   gi_wp2
   exact ⟨hkeep, ⟨rfl, x, rfl, by rw [HPX.out]; exact hR5⟩, hbW5⟩
  case done =>
   rintro D ys W hD hys ⟨⟨rfl, hRW, hCW⟩, hbW⟩ hK
   have h0 : (oneN ((bs s).drop k)).2 = 0 := by
    rw [<- oneN_take4, <- hRb]; exact Decidable.byContradiction fun hn => by rw [scan_step hRne, if_neg hn] at hys; cases hys
   gi_wp2
   refine ⟨trivial, (callsIn_wide.2 (fail_any 7 W)).mono ?_⟩; rintro e w3 ⟨rfl, rfl⟩
   gi_wp2
   refine ⟨by simp, .inl ⟨_, _, rfl, run_takeDeferred hK, ?_⟩⟩; exact .inr ⟨h0, rfl, hbW.trans ((belowK_b (w := w) (Nat.le_refl _) W D _ _ (by omega) hK rfl rfl).mono (by omega))⟩
  case stop =>
   rintro D c pre W hD hpre ⟨⟨rfl, x, rfl, hRW⟩, hbW⟩ hK
   have hx : (oneN ((bs s).drop k)).2 ≠ 0 /\ putX x.2 = un (((bs s).drop k).take (oneN ((bs s).drop k)).2) /\ (putX x.2).length = (oneN ((bs s).drop k)).2 := by
    rw [<- oneN_take4, <- hRb]; have hn : (oneN (bs R)).2 ≠ 0 := fun hn => by rw [scan_bad hRne hn] at hpre; simp at hpre
    rw [scan_step hRne, if_neg hn] at hpre; obtain ⟨t, ht⟩ := hpre; simp only [List.cons_append, List.nil_append, List.cons.injEq] at ht; obtain ⟨rfl, -⟩ := ht; obtain ⟨q1, q2, q3, q4⟩ := put_oneN (l := bs R) (c := (oneN (bs R)).1) (n := (oneN (bs R)).2) bs_lt (by rfl) hn; have e1 : putX (oneN (bs R)).1 = putU (oneN (bs R)).1 := by unfold putX; rw [if_pos q1]
    refine ⟨hn, ?_, ?_⟩
    ·rw [e1]
     show un (putN _) = _; rw [q3, hRb, List.take_take, Nat.min_eq_left (by rw [<- hRb]; exact (oneN_le _ bs_lt).2)]
    ·rw [e1, putU_length, q2]
   gi_wp2
   refine ⟨by simp, .inl ⟨_, _, rfl, run_takeDeferred hK, ?_⟩⟩; refine ⟨_, results_none rfl _ _ _, .inl ⟨hx.1, rfl, ?_, ?_⟩⟩
   ·have := hRW.kept (grownBy_putObj' W D (.deferred none)) (fun r e => by cases e; exact ⟨_, hK, rfl⟩)
    rw [hx.2.2, hx.2.1] at this; exact this
   ·exact hbW.trans ((belowK_b (w := w) (Nat.le_refl _) W D _ _ (by omega) hK rfl rfl).mono (by omega))
 ·have hmin : min ((k : Int) + 4) (s.size : Int) = (s.size : Int) := by omega
  obtain ⟨R, hR⟩ : ∃ R, R = s.extract k s.size := ⟨_, rfl⟩; refine callsIn_of_wp_marks Tryz.func184 rfl trivial ?_ rfl; simp only [Tryz.ntmps184, List.size_toArray, List.length_cons, List.length_nil, Nat.reduceAdd, Nat.reduceSub, Array.replicate_succ, Array.replicate_zero, List.push_toArray, List.append_toArray, List.nil_append, List.cons_append]; have hRr := Lib.hid hR; have hsl : s.extract k s.size = R := hR.symm
  gi_wp2
  have hRb : bs R = ((bs s).drop k).take 4 := by rw [hR, extract_bs]; rw [List.take_of_length_le (by simp [bs_length]), List.take_of_length_le (by simp [bs_length]; omega)]
  have hRne : bs R ≠ [] := by rw [hRb]; intro h0; have := congrArg List.length h0; simp [bs_length] at this; omega
  clear hR
  gi_quiet (fail)
  have hw0 : ∃ w0, w0 = (w.alloc (.cells #[.pointer (some ⟨g, 0, none⟩)] 178)).drewN nq := ⟨_, rfl⟩; obtain ⟨w0, hw0⟩ := hw0; rw [<- hw0]; have hR1 : RdrAt w0 g s k l := by rw [hw0]; exact hR0.drewN _
  have hC1 : Cells w0 w.heap.size #[.pointer (some ⟨g, 0, none⟩)] 178 := by rw [hw0]; exact (Cells.new w _ _).drewN _
  have hb1 : Below w.heap.size w w0 := by rw [hw0]; exact Below.drewN' ((Below.refl _ w).alloc (Nat.le_refl _) _) _
  have hz0 : w0.heap.size = w.heap.size + 1 := by rw [hw0]; simp
  have HA := Lib.hid (uAll_any R w0); have HZ := Lib.hid hz0; clear c0 c1 c9 hw0 hmin hz0
  gi_wp2
  refine ⟨trivial, (callsIn_wide.2 HA.out).mono ?_⟩; rintro e w1 ⟨rfl, hw1⟩; clear HA; have hz0 := HZ.out; have hz1 : w1.heap.size = w.heap.size + 2 := by rw [hw1]; simp [hz0]
  have hb2' : Below w0.heap.size w0 w1 := by rw [hw1]; exact (Below.refl _ _).alloc (Nat.le_refl _) _
  have hcB : w1.cell? ⟨w.heap.size + 1, 0, none⟩ = some (.string R) := by
   have h := World.cell?_alloc_new (w := w0) #[.string R] 9 0; rw [hz0] at h; rw [hw1]; exact h
  have hR2 := hR1.below hb2'; have hC2 := hC1.below hb2' hC1.lt; have hb2 : Below w.heap.size w w1 := hb1.trans (hb2'.mono (by omega)); have hT1 := hT.below hb2 hT.pos; have h0w := hT.pos; rw [hz0]; clear hw1 hb2' hR1 hC1 hb1 hz0; have hneq : Sem.run Tryz.prog (binOp .neq 216 (Value.func (Fn.func 212) #[] #[Value.pointer (some { block := w.heap.size + 1, off := 0 })]) Value.nilFunc) w1 = .ok (.bool true) w1 := by rfl
  gi_wp2
  have hwL : g <= w1.heap.size := by omega
  refine wpIn_rangeFunc_ownG rfl (by omega) (gf := 212) (lb := #[.pointer (some ⟨w.heap.size + 1, 0, none⟩)]) rfl trivial (enters_of Tryz.func212 (by kernel_rfl) rfl)
   (uAll_stops 8 (by omega) (w.heap.size + 1) R (by rw [<- bs_length, hRb]; simp; omega) w1 (by omega) hcB hT1) TwoKept.trans (TwoKept.put (w.heap.size + 1) w1 (by omega) (by omega)) (Below.refl _ _) (fun _ => rfl)
   (ScI w g s k l) (ScX w g s k l) (ScI_own w g s k l _ (by omega) hwL) (ScX_own w g s k l _ (by omega) hwL)
   ⟨⟨rfl, hR2, hC2⟩, hb2.mono (by omega)⟩
   (fun x => { tmps := #[.pointer (some ⟨g, 0, none⟩), .pointer (some ⟨w.heap.size, 0, none⟩), .string R, undef, .int .i64 (x.2 : Nat), undef, undef, .pointer (some ⟨g, 0, none⟩), .pointer (some ⟨g, 0, none⟩), .pointer (some ⟨g, 0, none⟩), .string s, .pointer (some ⟨g, 0, none⟩), .pointer (some ⟨g, 0, none⟩), .pointer (some ⟨g, 1, none⟩), .int .i64 (k : Int), .pointer (some ⟨g, 0, none⟩), .pointer (some ⟨g, 0, none⟩), .pointer (some ⟨g, 1, none⟩), .int .i64 (k : Int), .int .i64 ((k : Int) + 4), .pointer (some ⟨g, 0, none⟩), .pointer (some ⟨g, 0, none⟩), .pointer (some ⟨g, 0, none⟩), .string s, .int .i64 (s.size : Int), .int .i64 ((s.size : Int)), .string R, .string R, .func (.func 212) #[] #[.pointer (some ⟨w.heap.size + 1, 0, none⟩)], .int .i64 (x.1 : Nat), .int .i64 (x.2 : Nat), undef, undef, undef, undef, undef, undef, undef, undef, undef, undef, undef, undef, undef, undef, undef, undef, undef, undef, undef, undef], defers := [] }) ?assign ?body ?done ?stop
  case assign =>
   intro l x W K hK
   gi_wp2
   exact hK
  case body =>
   rintro l0 pre x W ⟨⟨rfl, hRW, hCW⟩, hbW⟩ -; have hltW := hRW.lt; have hPX := PutX_any x.2 W; have hplen := putX_len x.2; have hpsz : (strOf (putX x.2)).size = (putX x.2).length := strOf_size _; generalize hpx : putX x.2 = px at *; have HPX := Lib.hid hpx; have HPS := Lib.hid hpsz; clear hpx hpsz; have hcw := hCW.cell 0 _ rfl
   gi_wp2
   refine ⟨trivial, (CallsIn.inRound l0 (callsIn_wide.2 hPX)).mono ?_⟩; rintro e w3 ⟨rfl, hb3⟩; have hz3 := hb3.size; have hR3 := hRW.below hb3; have hC3 := hCW.below hb3 hCW.lt; have hcw3 := hC3.cell 0 _ rfl; have hWS := rWS w3 g s k l (strOf px) hR3 (by rw [HPS.out]; omega)
   gi_wp2
   refine ⟨trivial, (CallsIn.inRound l0 (callsIn_wide.2 hWS)).mono ?_⟩; rintro e w4 ⟨rfl, hR4, hb4, hB4⟩; obtain ⟨cs4, hb4', h54, h64, h74⟩ := id hR4; have c14 := hb4'.cells.cell 1 _ h74; have f14 := hb4'.cells.frozen 1; have hC4 := hB4.cells hC3 (by omega) (by decide); have hcw4 := hC4.cell 0 _ rfl; clear hb4' h54 h64 h74; have hR5 := hR4.moved (k + px.length); obtain ⟨cw, hcw', -⟩ := id hRW; have hkeep := keeps_beside (B := w1.heap.size) (((Beside.of_below (E := 5) (g := g) hb3).trans hB4).setCell 1 (.int .i64 ((k + px.length : Nat) : Int))) hcw'.cells; have hbW5 := ((hbW.trans (hb3.mono (by omega))).trans hb4).setCell (p := ⟨g, 1, none⟩) (Nat.le_refl _) (.int .i64 ((k + px.length : Nat) : Int)); have hl4 := HPS.out
   gi_wp2
   exact ⟨hkeep, ⟨rfl, x, rfl, by rw [HPX.out]; exact hR5⟩, hbW5⟩
  case done =>
   rintro D ys W hD hys ⟨⟨rfl, hRW, hCW⟩, hbW⟩ hK
   have h0 : (oneN ((bs s).drop k)).2 = 0 := by
    rw [<- oneN_take4, <- hRb]; exact Decidable.byContradiction fun hn => by rw [scan_step hRne, if_neg hn] at hys; cases hys
   gi_wp2
   refine ⟨trivial, (callsIn_wide.2 (fail_any 7 W)).mono ?_⟩; rintro e w3 ⟨rfl, rfl⟩
   gi_wp2
   refine ⟨by simp, .inl ⟨_, _, rfl, run_takeDeferred hK, ?_⟩⟩; exact .inr ⟨h0, rfl, hbW.trans ((belowK_b (w := w) (Nat.le_refl _) W D _ _ (by omega) hK rfl rfl).mono (by omega))⟩
  case stop =>
   rintro D c pre W hD hpre ⟨⟨rfl, x, rfl, hRW⟩, hbW⟩ hK
   have hx : (oneN ((bs s).drop k)).2 ≠ 0 /\ putX x.2 = un (((bs s).drop k).take (oneN ((bs s).drop k)).2) /\ (putX x.2).length = (oneN ((bs s).drop k)).2 := by
    rw [<- oneN_take4, <- hRb]; have hn : (oneN (bs R)).2 ≠ 0 := fun hn => by rw [scan_bad hRne hn] at hpre; simp at hpre
    rw [scan_step hRne, if_neg hn] at hpre; obtain ⟨t, ht⟩ := hpre; simp only [List.cons_append, List.nil_append, List.cons.injEq] at ht; obtain ⟨rfl, -⟩ := ht; obtain ⟨q1, q2, q3, q4⟩ := put_oneN (l := bs R) (c := (oneN (bs R)).1) (n := (oneN (bs R)).2) bs_lt (by rfl) hn; have e1 : putX (oneN (bs R)).1 = putU (oneN (bs R)).1 := by unfold putX; rw [if_pos q1]
    refine ⟨hn, ?_, ?_⟩
    ·rw [e1]
     show un (putN _) = _; rw [q3, hRb, List.take_take, Nat.min_eq_left (by rw [<- hRb]; exact (oneN_le _ bs_lt).2)]
    ·rw [e1, putU_length, q2]
   gi_wp2
   refine ⟨by simp, .inl ⟨_, _, rfl, run_takeDeferred hK, ?_⟩⟩; refine ⟨_, results_none rfl _ _ _, .inl ⟨hx.1, rfl, ?_, ?_⟩⟩
   ·have := hRW.kept (grownBy_putObj' W D (.deferred none)) (fun r e => by cases e; exact ⟨_, hK, rfl⟩)
    rw [hx.2.2, hx.2.1] at this; exact this
   ·exact hbW.trans ((belowK_b (w := w) (Nat.le_refl _) W D _ _ (by omega) hK rfl rfl).mono (by omega))
def PartE (g : Nat) (s : ByteArray) (w : World) (k : Nat) (l : List UInt8) (L : List Nat) (e : Ending) (w' : World) : Prop :=
 (L.head? = some 34 /\ OkW g s w (.bool false) (k + 1) l e w') \/
 (L.head? ≠ some 34 /\ (partQ L).2.2 = 0 /\ OkW g s w (.bool true) (k + (partQ L).2.1) (l ++ un (partQ L).1) e w') \/
 (L.head? ≠ some 34 /\ (partQ L).2.2 ≠ 0 /\ BadR g w ((partQ L).2.2 : Nat) e w')
theorem part_any (w : World) (g : Nat) (s : ByteArray) (k : Nat) (l : List UInt8) (h : RdrAt w g s k l) (hk : k <= s.size) (hs : s.size <= 1048576) (hl : l.length <= 9000000) (hT : Tab w) (hg : 1 < g) :
  Calls Tryz.prog 157 #[.pointer (some ⟨g, 0, none⟩)] w (PartE g s w k l ((bs s).drop k)) := by
 cases hq : (bs s).drop k with
 | nil =>
  have hN := fun W h => rnext_nil W g s k l h hk hq (by omega); clear hq; go_enter Tryz.func157, Tryz.ntmps157; go_wp2_with fail; refine (hN _ h).mono ?_; rintro e w1 ⟨rfl, hb1⟩; go_wp2; exact ⟨rfl, .inr (.inr ⟨by simp, by simp [partQ, errR], rfl, hb1⟩)⟩
 | cons c r =>
  have hN := fun W h => rnext_cons W g s k l h hq (by omega); have hc : c < 256 := bs_lt c (List.mem_of_mem_drop (by rw [hq]; simp)); obtain ⟨hd1, hd2⟩ := drop_cons hq; rw [bs_length] at hd2
  by_cases h34 : c = 34
  ·subst h34
   clear hq hd1; go_enter Tryz.func157, Tryz.ntmps157; go_wp2_with fail; refine (hN _ h).mono ?_; rintro e w1 ⟨rfl, hR1, hb1, hB1⟩; go_wp2; go_ret; exact .inl ⟨rfl, rfl, hR1, hb1⟩
  have hhd : (c :: r).head? ≠ some 34 := by simpa using h34
  have b34 : ((c : Int) == 34) = false := by rw [beq_eq_false_iff_ne]; omega
  by_cases h92 : c = 92
  ·subst h92
   have hE := fun W h => escape_any W g s k l h (by omega) (by omega) hl; rw [hd1] at hE; have HC : Hid (partQ (92 :: r) = escQ r) := Lib.hid (by simp [partQ]); clear hq hd1 hhd h34; go_enter Tryz.func157, Tryz.ntmps157; go_wp2_with fail; refine (hN _ h).mono ?_; rintro e w1 ⟨rfl, hR1, hb1, hB1⟩; go_wp2_with fail; refine (hE _ hR1).mono ?_; rintro e w2 (⟨h0, rfl, hR2, hb2, hB2⟩ | ⟨h0, rfl, hb2⟩)
   ·have H0 := Lib.hid h0
    clear h0; go_wp2; go_ret; exact .inr (.inl ⟨by simp, by rw [HC.out]; exact H0.out, by rw [HC.out]; exact ⟨rfl, hR2, hb1.trans hb2⟩⟩)
   ·have H0 := Lib.hid h0
    clear h0; go_wp2; exact ⟨rfl, .inr (.inr ⟨by simp, by rw [HC.out]; exact H0.out, by rw [HC.out]; exact ⟨rfl, hb1.trans hb2⟩⟩)⟩
  have b92 : ((c : Int) == 92) = false := by rw [beq_eq_false_iff_ne]; omega
  by_cases h32 : c < 32
  ·have HC : Hid (partQ (c :: r) = errR 3) := Lib.hid (by simp [partQ, h32])
   have HH := Lib.hid hhd; clear hq hd1 hhd h34 h92; go_enter Tryz.func157, Tryz.ntmps157; go_wp2_with fail; refine (hN _ h).mono ?_; rintro e w1 ⟨rfl, hR1, hb1, hB1⟩; go_wp2_with fail; refine (fail_any 3 _).mono ?_; rintro e w2 ⟨rfl, rfl⟩; go_wp2; exact ⟨rfl, .inr (.inr ⟨HH.out, by rw [HC.out]; simp [errR], by rw [HC.out]; exact ⟨rfl, hb1⟩⟩)⟩
  by_cases h128 : c < 128
  ·have HC : Hid (partQ (c :: r) = ([c], 1, 0)) := Lib.hid (by
    simp only [partQ]; rw [if_neg h32, if_neg h92]
    simp [oneN, h128])
   have HH := Lib.hid hhd; clear hq hd1 hhd h34 h92; have h32' : 32 <= c := by omega
   clear h32; go_enter Tryz.func157, Tryz.ntmps157; go_wp2_with fail; refine (hN _ h).mono ?_; rintro e w1 ⟨rfl, hR1, hb1, hB1⟩; go_wp2_with fail; refine (rWB w1 g s _ l c _ rfl (by omega) hR1 (by omega)).mono ?_; rintro e w2 ⟨rfl, hR2, hb2, hB2⟩; go_wp2; go_ret; exact .inr (.inl ⟨HH.out, by rw [HC.out], by rw [HC.out]; exact ⟨rfl, hR2, hb1.trans hb2⟩⟩)
  ·have HC : Hid (partQ (c :: r) = if (oneN (c :: r)).2 = 0 then errR 7 else ((c :: r).take (oneN (c :: r)).2, (oneN (c :: r)).2, 0)) := Lib.hid (by
    simp only [partQ]
    rw [if_neg h32, if_neg h92])
   have hS := fun W h hT => scalar_any W g s k l h (by omega) hs hl hT; rw [hq] at hS; generalize hcr : c :: r = cr at *; have HH := Lib.hid hhd; clear hq hd1 hhd h34 h92 hcr; have h32' : 128 <= c := by omega
   clear h32 h128; go_enter Tryz.func157, Tryz.ntmps157; go_wp2_with fail; refine (hN _ h).mono ?_; rintro e w1 ⟨rfl, hR1, hb1, hB1⟩; have hR2 := hR1.moved k; have hT2 := hT.below (hb1.trans (below_moved g (.int .i64 (k : Int)))) hg; obtain ⟨cs, hbl, h5, h6, h7⟩ := id hR1; have c1 := hbl.cells.cell 1 _ h7; have f1 := hbl.cells.frozen 1; clear hbl h5 h6 h7; go_wp2_with fail; refine (hS _ hR2 hT2).mono ?_; rintro e w2 (⟨h0, rfl, hR3, hb3⟩ | ⟨h0, rfl, hb3⟩)
   ·have H0 := Lib.hid h0
    clear h0; go_wp2; go_ret; exact .inr (.inl ⟨HH.out, by rw [HC.out, if_neg H0.out], by rw [HC.out, if_neg H0.out]; exact ⟨rfl, hR3, (hb1.trans (below_moved g _)).trans hb3⟩⟩)
   ·have H0 := Lib.hid h0
    clear h0; go_wp2; exact ⟨rfl, .inr (.inr ⟨HH.out, by rw [HC.out, if_pos H0.out]; simp [errR], by rw [HC.out, if_pos H0.out]; exact ⟨rfl, (hb1.trans (below_moved g _)).trans hb3⟩⟩)⟩
theorem Tryz.asFail (v : Value) (w : World) : (Instr.typeAssert (.iface 176 v) 20 176 true).run Tryz.prog w = .ok (.tuple #[v, .bool true]) w := by kernel_rfl
theorem catch_panicking (b0 b1 b2 : Nat) (v0 v1 v2 : Value) (n : Int) (older : List PanicEntry) (w : World) (h0 : Cells w b0 #[v0] 9) (h1 : Cells w b1 #[v1] 3) (h2 : Cells w b2 #[v2] 26) (h01 : b0 < b1) (h12 : b1 < b2) :
  CallsD Tryz.prog 154 #[.pointer (some ⟨b0, 0, none⟩), .pointer (some ⟨b1, 0, none⟩), .pointer (some ⟨b2, 0, none⟩)] (.panicking ({ v := failV n, recovered := false } :: older)) w fun e u' w' =>
   e = .returned (.tuple #[]) /\ u' = .panicking ({ v := failV n, recovered := true } :: older) /\ Cells w' b0 #[.string ⟨#[]⟩] 9 /\ Cells w' b1 #[.int .i64 0] 3 /\ Cells w' b2 #[.int .i64 n] 26 /\ Below b0 w w' := by
 refine callsD_of_wpS Tryz.func154 rfl fun c₀ cs hu => ?_; apply wpS_seq
 apply wpS_region
 simp [wpOpsS, go_sem, recoverD, hu, Tryz.ntmps154, Exit.thenS]
 refine wpS_of_wp ?_; rw [show (#[Value.pointer (some ⟨b0, 0, none⟩), .pointer (some ⟨b1, 0, none⟩), .pointer (some ⟨b2, 0, none⟩)] ++ ((Array.replicate 16 undef).setIfInBounds 3 (failV n)).setIfInBounds 0 (failV n)) = #[Value.pointer (some ⟨b0, 0, none⟩), .pointer (some ⟨b1, 0, none⟩), .pointer (some ⟨b2, 0, none⟩), failV n, undef, undef, failV n, undef, undef, undef, undef, undef, undef, undef, undef, undef, undef, undef, undef] from rfl]; have has := Tryz.asFail; have hx := Cells.new w #[.int .i64 n] 176; have hxc := hx.cell 0 _ rfl; have k0 := (h0.alloc (.cells #[.int .i64 n] 176)); have k1 := (h1.alloc (.cells #[.int .i64 n] 176)); have k2 := (h2.alloc (.cells #[.int .i64 n] 176)); have k0c := k0.cell 0 _ rfl; have k0f := k0.frozen 0; have k1c := k1.cell 0 _ rfl; have k1f := k1.frozen 0; have k2c := k2.cell 0 _ rfl; have k2f := k2.frozen 0; have n01 : ¬ b0 = b1 := by omega
 have n10 : ¬ b1 = b0 := by omega
 have n02 : ¬ b0 = b2 := by omega
 have n20 : ¬ b2 = b0 := by omega
 have n12 : ¬ b1 = b2 := by omega
 have n21 : ¬ b2 = b1 := by omega
 have l0 := h0.lt; have l1 := h1.lt; have l2 := h2.lt; clear h0 h1 h2; go_wp2; have x0 : ¬ w.heap.size = b0 := by omega
 have x1 : ¬ w.heap.size = b1 := by omega
 have x2 : ¬ w.heap.size = b2 := by omega
 have y0 : ¬ b0 = w.heap.size := by omega
 have y1 : ¬ b1 = w.heap.size := by omega
 have y2 : ¬ b2 = w.heap.size := by omega
 have hb : Below b0 w (w.alloc (.cells #[.int .i64 n] 176)) := (Below.refl b0 w).alloc (Nat.le_of_lt l0) _; have H01 := Lib.hid (show b0 <= b1 /\ b0 <= b2 by omega); clear l0 l1 l2 h01 h12; generalize w.alloc (.cells #[.int .i64 n] 176) = W0 at *; generalize w.heap.size = X at *; go_region
 have r0 := ((k0.set 0 (by simp) (.string ⟨#[]⟩)).setOther ⟨b1, 0, none⟩ (.int .i64 0) (by simpa using n10)).setOther ⟨b2, 0, none⟩ (.int .i64 n) (by simpa using n20); have r1 := ((k1.setOther ⟨b0, 0, none⟩ (.string ⟨#[]⟩) (by simpa using n01)).set 0 (by simp) (.int .i64 0)).setOther ⟨b2, 0, none⟩ (.int .i64 n) (by simpa using n21); have r2 := ((k2.setOther ⟨b0, 0, none⟩ (.string ⟨#[]⟩) (by simpa using n02)).setOther ⟨b1, 0, none⟩ (.int .i64 0) (by simpa using n12)).set 0 (by simp) (.int .i64 n); clear k0 k1 k2 k0c k0f k1c k1f k2c k2f has; cases c₀
 exact ⟨rfl, _, rfl, _, results_none rfl _ _ _, rfl, rfl, r0, r1, r2, (((hb.setCell (p := ⟨b0, 0, none⟩) (Nat.le_refl _) _).setCell (p := ⟨b1, 0, none⟩) H01.out.1 _).setCell (p := ⟨b2, 0, none⟩) H01.out.2 _).drew⟩
theorem catch_idle (p q r : Value) (w : World) :
  CallsD Tryz.prog 154 #[p, q, r] .returning w fun e u' w' => e = .returned (.tuple #[]) /\ u' = .returning /\ w' = w := by
 refine callsD_of_wpS Tryz.func154 rfl fun c₀ cs hu => ?_; apply wpS_seq
 apply wpS_region
 simp [wpOpsS, go_sem, recoverD, hu, Tryz.ntmps154, Exit.thenS]
 refine wpS_of_wp ?_; rw [show (#[p, q, r] ++ ((Array.replicate 16 undef).setIfInBounds 3 Value.nilIface).setIfInBounds 0 Value.nilIface) = #[p, q, r, Value.nilIface, undef, undef, Value.nilIface, undef, undef, undef, undef, undef, undef, undef, undef, undef, undef, undef, undef] from rfl]; go_wp2; cases c₀
 simp_all [bodyPostS, results, Tryz.results154]
def scanV (q : PartR) : Value := .tuple #[.string (strOf (un q.1)), .int .i64 (q.2.1 : Int), .int .i64 (q.2.2 : Int)]
def mk3 (w : World) : World := ((w.alloc (.cells #[.string ⟨#[]⟩] 9)).alloc (.cells #[.int .i64 0] 3)).alloc (.cells #[.int .i64 0] 26)
def mkR (w : World) (s : ByteArray) : World := (mk3 w).alloc (.cells #[.string s, .int .i64 0, .pointer none, .slice none 0 0] 180)
theorem mk3_size (w : World) : (mk3 w).heap.size = w.heap.size + 3 := by simp [mk3]
theorem mkR_below (w : World) (s : ByteArray) : Below w.heap.size w (mkR w s) := by
 unfold mkR mk3; exact ((((Below.refl _ w).alloc (Nat.le_refl _) _).alloc (by simp) _).alloc (by simp; omega) _).alloc (by simp; omega) _
theorem mkR_box (w : World) (s : ByteArray) : Cells (mkR w s) w.heap.size #[.string ⟨#[]⟩] 9 /\ Cells (mkR w s) (w.heap.size + 1) #[.int .i64 0] 3 /\ Cells (mkR w s) (w.heap.size + 2) #[.int .i64 0] 26 := by
 unfold mkR mk3; have h0 := Cells.new w #[.string ⟨#[]⟩] 9; have h1 := Cells.new (w.alloc (.cells #[.string ⟨#[]⟩] 9)) #[.int .i64 0] 3; have h2 := Cells.new ((w.alloc (.cells #[.string ⟨#[]⟩] 9)).alloc (.cells #[.int .i64 0] 3)) #[.int .i64 0] 26; simp only [World.size_alloc] at h1 h2; exact ⟨((h0.alloc _).alloc _).alloc _, (h1.alloc _).alloc _, h2.alloc _⟩
theorem mkR_rdr (w : World) (s : ByteArray) : RdrAt (mkR w s) (w.heap.size + 3) s 0 [] := by
 have h := Cells.new (mk3 w) #[.string s, .int .i64 0, .pointer none, .slice none 0 0] 180; rw [mk3_size] at h; exact ⟨_, ⟨h, .inl rfl, _, rfl, OwnOf.nil⟩, rfl, rfl, rfl⟩
def atOf (w : World) (g : Nat) : Nat := match w.cell? ⟨g, 1, none⟩ with
 | some (.int _ n) => n.toNat
 | _ => 0
theorem RdrAt.atOf {w : World} {g : Nat} {s : ByteArray} {k : Nat} {l : List UInt8} (h : RdrAt w g s k l) : YtbcdaaobbebooaaGreatDoor.atOf w g = k := by
 obtain ⟨cs, h1, _, _, h7⟩ := h; unfold YtbcdaaobbebooaaGreatDoor.atOf; rw [h1.cells.cell 1 _ h7]; simp
theorem un_length (l : List Nat) : (un l).length = l.length := by simp [un]
theorem qScan_any (s : ByteArray) (w : World) (hs : s.size <= 1048576) (hT : Tab w) :
    Calls Tryz.prog 126 #[.string s] w fun e w' => e = .returned (scanV (scanQ (bs s))) /\ Below w.heap.size w w' := by
  have hmf : ∀ (fn : Fn) (first cap : Array Value) (w : World), (Instr.makeFunc fn first cap).run Tryz.prog w = .ok (.func fn first cap) w := fun _ _ _ _ => rfl; have hpos := hT.pos; have hR := mkR_rdr w s; obtain ⟨x0, x1, x2⟩ := mkR_box w s; have hB := mkR_below w s; have hTR := hT.below hB hpos
  cases hq : bs s with
  | nil =>
    have hN := rnext_nil (mkR w s) _ s 0 [] hR (Nat.zero_le _) (by simpa using hq) (by omega); have HC : Hid (scanQ (bs s) = errR 2) := Lib.hid (by rw [hq]; rfl); rw [<- hq]; unfold mkR mk3 at hN; clear hq; go_enter_defers Tryz.func126, Tryz.ntmps126
    go_wp2_with fail; refine hN.mono ?_; rintro e w1 ⟨rfl, hb1⟩; have y0 := x0.below hb1 (by omega); have y1 := x1.below hb1 (by omega); have y2 := x2.below hb1 (by omega); go_wp2; refine leaves_cons (f := 154) (args := #[.pointer (some ⟨w.heap.size, 0, none⟩), .pointer (some ⟨w.heap.size + 1, 0, none⟩), .pointer (some ⟨w.heap.size + 2, 0, none⟩)]) (by simp) (by simp [go_sem]) ?_; refine (catch_panicking w.heap.size (w.heap.size + 1) (w.heap.size + 2) _ _ _ _ [] _ y0 y1 y2 (by omega) (by omega)).mono ?_; rintro e u' w'' ⟨rfl, rfl, r0, r1, r2, hbl⟩; have q0 := r0.cell 0 _ rfl; have q1 := r1.cell 0 _ rfl; have q2 := r2.cell 0 _ rfl; clear r0 r1 r2; simp [Leaves, settle, results, Tryz.results126, go_sem, q0, q1, q2]
    exact ⟨by rw [HC.out]; rfl, (hB.trans (hb1.mono (by omega))).trans hbl⟩
  | cons c r =>
    have hN := rnext_cons (mkR w s) _ s 0 [] hR (by simpa using hq) (by omega); have hc : c < 256 := bs_lt c (by rw [hq]; simp); have hlen : r.length + 1 = s.size := by rw [<- bs_length, hq]; rfl
    by_cases hc34 : c = 34
    . subst hc34
      have HQ : Hid (scanQ (bs s) = joinR [] 1 (bodyQ ((bs s).drop 1))) := Lib.hid (by rw [hq]; rfl); rw [<- hq]; unfold mkR mk3 at hN; clear hq; go_enter_defers Tryz.func126, Tryz.ntmps126
      go_wp2_with fail; refine hN.mono ?_; clear hN; rintro e w1 ⟨rfl, hR1, hb1, hB1⟩; have y0 := x0.below hb1 (by omega); have y1 := x1.below hb1 (by omega); have y2 := x2.below hb1 (by omega); have hb1' := hB.trans (hb1.mono (by omega)); clear x0 x1 x2 hB1 hb1 hB hR hTR; go_wp2_with fail; go_loopw [] (fun wr => ∃ (k : Nat) (pre : List Nat), RdrAt wr (w.heap.size + 3) s k (un pre) /\ k <= s.size /\ pre.length <= 4 * k /\ joinR pre k (bodyQ ((bs s).drop k)) = scanQ (bs s) /\ Cells wr w.heap.size #[.string ⟨#[]⟩] 9 /\ Cells wr (w.heap.size + 1) #[.int .i64 0] 3 /\ Cells wr (w.heap.size + 2) #[.int .i64 0] 26 /\ Below w.heap.size w wr) (fun wr => s.size - atOf wr (w.heap.size + 3))
      case atStart => exact ⟨1, [], hR1, by omega, by simp, HQ.out.symm, y0, y1, y2, hb1'⟩
      case round =>
        clear hR1 y0 y1 y2 hb1' HQ; obtain ⟨k, pre, hR, hk, hpl, hj, x0, x1, x2, hb⟩ := hrel; have HJ := Lib.hid hj; have hat : atOf wr (w.heap.size + 3) = k := hR.atOf; have hT1 := hT.below hb hpos; have hP := part_any wr _ s k (un pre) hR hk hs (by rw [un_length]; omega) hT1 (by omega); clear hj; have hBy : Byt ((bs s).drop k) := fun x hx => bs_lt x (List.mem_of_mem_drop hx); go_wp2_with fail; refine hP.mono ?_; clear hP; rintro e w2 (⟨hh, rfl, hR2, hb2⟩ | ⟨hh, he, rfl, hR2, hb2⟩ | ⟨hh, he, rfl, hb2⟩)
        . have HC : Hid (scanQ (bs s) = (pre, k + 1, 0)) := Lib.hid (by rw [<- HJ.out, joinR_end hBy hh])
          have y0 := x0.below hb2 (by omega); have y1 := x1.below hb2 (by omega); have y2 := x2.below hb2 (by omega); have hb3 := hb.trans (hb2.mono (by omega)); clear hh hBy x0 x1 x2 hb hb2 HJ hR hat; obtain ⟨cs, hbl, h5, h6, h7⟩ := hR2; have hlt2 := hbl.cells.lt; have hg2 := hbl.cells; have hc2 : w2.drew.cell? ⟨w.heap.size + 1 + 1 + 1, 1, none⟩ = some (.int .i64 ((k + 1 : Nat) : Int)) := hbl.cells.cell 1 _ h7; have hl2 : (un pre).length <= 1000000000 := by rw [un_length]; omega
          have hSt := String_any w2.drew (h := (show Bld 180 (w.heap.size + 3) w2.drew (w.heap.size + 3) 2 cs (un pre) from ⟨hbl.cells.drew, hbl.addr, by obtain ⟨v, e1, e2⟩ := hbl.buf; exact ⟨v, e1, e2.drew⟩⟩)) (Nat.le_of_lt hlt2) hl2; obtain ⟨S, hS⟩ : ∃ S : ByteArray, S = ⟨(un pre).toArray⟩ := ⟨_, rfl⟩; rw [<- hS] at hSt; have HS := Lib.hid hS; clear hS hbl hl2 h5 h6; go_wp2_with fail
          go_region_held3 (fun w' => w'.cell? ⟨w.heap.size + 1 + 1 + 1, 1, none⟩ = some (.int .i64 ((k + 1 : Nat) : Int))) (first | exact hc2 | exact hc6 | exact hc7 | exact hc8 | exact hc9) (first
            | (go_at_call 43; refine hSt.mono ?_; rintro e6 w6 ⟨rfl, hb6, hk6⟩
               have hz2 := y2.lt; have z0 : Cells w6 w.heap.size _ _ := hk6 _ _ y0.lt y0 (fun _ _ h => by cases h); have z1 : Cells w6 (w.heap.size + 1) _ _ := hk6 _ _ y1.lt y1 (fun _ _ h => by cases h); have z2 : Cells w6 (w.heap.size + 1 + 1) _ _ := hk6 _ _ y2.lt y2 (fun _ _ h => by cases h); have zg : Cells w6 (w.heap.size + 1 + 1 + 1) cs 180 := hk6 _ _ hlt2 hg2 (fun _ _ h => by cases h); have hc6 := zg.cell 1 _ h7; have zg7 := zg.setOther ⟨w.heap.size, 0, none⟩ (.string S) (by simp; omega); have zg8 := zg7.setOther ⟨w.heap.size + 1, 0, none⟩ (.int .i64 ((k + 1 : Nat) : Int)) (by simp); have zg9 := zg8.setOther ⟨w.heap.size + 1 + 1, 0, none⟩ (.int .i64 0) (by simp); have hc7 := zg7.cell 1 _ h7; have hc8 := zg8.cell 1 _ h7; have hc9 := zg9.cell 1 _ h7; have z0c := z0.cell 0 _ rfl; have z0f := z0.frozen 0; have z1c := z1.cell 0 _ rfl; have z1f := z1.frozen 0; have z2c := z2.cell 0 _ rfl
               have z2f := z2.frozen 0))
          have r0 := ((z0.set 0 (by simp) (.string S)).setOther ⟨w.heap.size + 1, 0, none⟩ (.int .i64 ((k + 1 : Nat) : Int)) (by simp)).setOther ⟨w.heap.size + 1 + 1, 0, none⟩ (.int .i64 0) (by simp; omega); have r1 := ((z1.setOther ⟨w.heap.size, 0, none⟩ (.string S) (by simp)).set 0 (by simp) (.int .i64 ((k + 1 : Nat) : Int))).setOther ⟨w.heap.size + 1 + 1, 0, none⟩ (.int .i64 0) (by simp); have r2 := ((z2.setOther ⟨w.heap.size, 0, none⟩ (.string S) (by simp; omega)).setOther ⟨w.heap.size + 1, 0, none⟩ (.int .i64 ((k + 1 : Nat) : Int)) (by simp)).set 0 (by simp) (.int .i64 0); have hb7 : Below w.heap.size w w6 := hb3.drew.trans (hb6.mono (by omega)); have hb8 := ((hb7.setCell (p := ⟨w.heap.size, 0, none⟩) (Nat.le_refl _) (.string S)).setCell (p := ⟨w.heap.size + 1, 0, none⟩) (by simp) (.int .i64 ((k + 1 : Nat) : Int))).setCell (p := ⟨w.heap.size + 1 + 1, 0, none⟩) (by simp; omega) (.int .i64 0); have q0 := r0.cell 0 _ rfl; have q1 := r1.cell 0 _ rfl; have q2 := r2.cell 0 _ rfl; clear r0 r1 r2 z0 z1 z2 zg zg7 zg8 zg9 z0c z0f z1c z1f z2c z2f hc2 hc6 hc7 hc8 hc9 hk6 hSt; go_wp2; refine leaves_cons (f := 154) (args := #[.pointer (some ⟨w.heap.size, 0, none⟩), .pointer (some ⟨w.heap.size + 1, 0, none⟩), .pointer (some ⟨w.heap.size + 1 + 1, 0, none⟩)]) (by simp) (by simp [go_sem]) ?_; refine (catch_idle _ _ _ _).mono ?_; rintro e u' w'' ⟨rfl, rfl, rfl⟩; simp only [Int.natCast_add, Int.natCast_one] at q0 q1 q2 hb8; simp [Leaves, settle, results, Tryz.results126, go_sem, q0, q1, q2]
          exact ⟨by rw [HC.out, HS.out]; rfl, hb8⟩
        . obtain ⟨c, hc1, hc2, hc3, hc4⟩ := partQ_ok hBy he
          have HN : Hid (joinR (pre ++ (partQ ((bs s).drop k)).1) (k + (partQ ((bs s).drop k)).2.1) (bodyQ ((bs s).drop (k + (partQ ((bs s).drop k)).2.1))) = scanQ (bs s)) := Lib.hid (by rw [<- HJ.out, joinR_good hBy hh he, List.drop_drop])
          have hpl2 : (pre ++ (partQ ((bs s).drop k)).1).length <= 4 * (k + (partQ ((bs s).drop k)).2.1) := by
            rw [List.length_append, hc2, putN_len]; have := (wid_pos c).2; omega
          have hk2 : k + (partQ ((bs s).drop k)).2.1 <= s.size := by rw [List.length_drop, bs_length] at hc4; omega
          have hR3 : RdrAt w2 (w.heap.size + 3) s (k + (partQ ((bs s).drop k)).2.1) (un (pre ++ (partQ ((bs s).drop k)).1)) := by rw [un_append]; exact hR2
          have hat2 : atOf w2 (w.heap.size + 3) = k + (partQ ((bs s).drop k)).2.1 := hR3.atOf; have y0 := x0.below hb2 (by omega); have y1 := x1.below hb2 (by omega); have y2 := x2.below hb2 (by omega); have hb3 := hb.trans (hb2.mono (by omega)); generalize (partQ ((bs s).drop k)).2.1 = z at *; generalize (partQ ((bs s).drop k)).1 = zo at *; have HAT := Lib.hid hat; have HAT2 := Lib.hid hat2; clear hat hat2 hh he hc2; go_wp2; go_roundw
          case rel => exact ⟨k + z, pre ++ zo, hR3, hk2, hpl2, HN.out, y0, y1, y2, hb3⟩
          case measure => rw [HAT.out, HAT2.out]; omega
        . have HC : Hid (scanQ (bs s) = errR (partQ ((bs s).drop k)).2.2) := Lib.hid (by rw [<- HJ.out, joinR_bad hBy hh he])
          have y0 := x0.below hb2 (by omega); have y1 := x1.below hb2 (by omega); have y2 := x2.below hb2 (by omega); have hb3 := hb.trans (hb2.mono (by omega)); clear hh hBy x0 x1 x2 hb hb2 HJ hR he hat; generalize (partQ ((bs s).drop k)).2.2 = z at *; go_wp2; refine leaves_cons (f := 154) (args := #[.pointer (some ⟨w.heap.size, 0, none⟩), .pointer (some ⟨w.heap.size + 1, 0, none⟩), .pointer (some ⟨w.heap.size + 2, 0, none⟩)]) (by simp) (by simp [go_sem]) ?_; refine (catch_panicking w.heap.size (w.heap.size + 1) (w.heap.size + 2) _ _ _ _ [] _ y0 y1 y2 (by omega) (by omega)).mono ?_; rintro e u' w'' ⟨rfl, rfl, r0, r1, r2, hbl⟩; have q0 := r0.cell 0 _ rfl; have q1 := r1.cell 0 _ rfl; have q2 := r2.cell 0 _ rfl; clear r0 r1 r2; simp [Leaves, settle, results, Tryz.results126, go_sem, q0, q1, q2]
          exact ⟨by rw [HC.out]; rfl, hb3.trans hbl⟩
    . have HC : Hid (scanQ (bs s) = errR 3) := Lib.hid (by rw [hq]; simp only [scanQ]; rw [if_pos hc34])
      have hbc : ((c : Int) != 34) = true := by rw [bne_iff_ne]; omega
      rw [<- hq]; unfold mkR mk3 at hN; clear hq hc34; go_enter_defers Tryz.func126, Tryz.ntmps126
      go_wp2_with fail; refine hN.mono ?_; rintro e w1 ⟨rfl, hR1, hb1, hB1⟩; have y0 := x0.below hb1 (by omega); have y1 := x1.below hb1 (by omega); have y2 := x2.below hb1 (by omega); go_wp2_with fail; refine (fail_any 3 _).mono ?_; rintro e w2 ⟨rfl, rfl⟩; go_wp2; refine leaves_cons (f := 154) (args := #[.pointer (some ⟨w.heap.size, 0, none⟩), .pointer (some ⟨w.heap.size + 1, 0, none⟩), .pointer (some ⟨w.heap.size + 2, 0, none⟩)]) (by simp) (by simp [go_sem]) ?_; refine (catch_panicking w.heap.size (w.heap.size + 1) (w.heap.size + 2) _ _ _ _ [] _ y0 y1 y2 (by omega) (by omega)).mono ?_; rintro e u' w'' ⟨rfl, rfl, r0, r1, r2, hbl⟩; have q0 := r0.cell 0 _ rfl; have q1 := r1.cell 0 _ rfl; have q2 := r2.cell 0 _ rfl; clear r0 r1 r2; simp [Leaves, settle, results, Tryz.results126, go_sem, q0, q1, q2]
      exact ⟨by rw [HC.out]; rfl, (hB.trans (hb1.mono (by omega))).trans hbl⟩
def parseQ (l : List Nat) : List Nat × Nat := if (scanQ l).2.2 ≠ 0 then ([], (scanQ l).2.2) else if (scanQ l).2.1 < l.length then ([], 14) else ((scanQ l).1, 0)
def parseV (q : List Nat × Nat) : Value := .tuple #[.string (strOf (un q.1)), .int .i64 (q.2 : Int)]
theorem Parse_any (s : ByteArray) (w : World) (hs : s.size <= 1048576) (hT : Tab w) :
  Calls Tryz.prog 163 #[.string s] w fun e w' => e = .returned (parseV (parseQ (bs s))) /\ Below w.heap.size w w' := by
 have hS := qScan_any s w hs hT; unfold scanV at hS; unfold parseV parseQ; rw [bs_length]; generalize scanQ (bs s) = q at *; obtain ⟨o, z, e⟩ := q; simp only at hS ⊢
 by_cases he : e = 0
 ·subst he
  simp only [ne_eq, not_true_eq_false, if_false]
  by_cases hz : z < s.size
  ·rw [if_pos hz]
   go_enter Tryz.func163, Tryz.ntmps163; go_wp2_with fail; refine hS.mono ?_; rintro e w1 ⟨rfl, hb1⟩; go_wp2; go_ret2
   exact ⟨rfl, hb1⟩
  ·rw [if_neg hz]
   have hz' : s.size <= z := by omega
   clear hz; go_enter Tryz.func163, Tryz.ntmps163; go_wp2_with fail; refine hS.mono ?_; rintro e w1 ⟨rfl, hb1⟩; go_wp2; go_ret2
   exact ⟨rfl, hb1⟩
 ·rw [if_pos he]
  have hbe : ((e : Int) != 0) = true := by rw [bne_iff_ne]; omega
  clear he; go_enter Tryz.func163, Tryz.ntmps163; go_wp2_with fail; refine hS.mono ?_; rintro e w1 ⟨rfl, hb1⟩; go_wp2; go_ret2
  exact ⟨rfl, hb1⟩
end Go.Proofs.YtbcdaaobbebooaaGreatDoor
namespace Go.Proofs.YtbcdaaobbebooaaGreatDoor
set_option maxRecDepth 100000
set_option maxHeartbeats 20000000
open Go.RowKit Go.Tab
abbrev PrC (w : World) (g : Nat) (lv : Value) (k : Int) (e : Int) : Prop := Cells w g #[lv, .int .i64 k, .int .i64 e] 220
structure Prs (w : World) (g : Nat) (lv : Value) (l : List Tok) (k : Nat) : Prop where
 box : PrC w g lv (k : Nat) 0
 toks : ToksAt w lv l
 own : ∀ b, lv.ownBlock = some b -> b < g
 le : k <= l.length
 small : l.length <= 1000000
 tab : Tab w
 tabg : 1 < g
 short : ∀ t ∈ l, t.text.size <= 1048576
theorem Prs.go {w w' : World} {g : Nat} {lv : Value} {l : List Tok} {k k' : Nat} (h : Prs w g lv l k) (hs : Save g w w') (hc : PrC w' g lv (k' : Nat) 0) (hk : k' <= l.length) : Prs w' g lv l k' :=
 ⟨hc, h.toks.moved hs.size (fun b off hb hv => cell_same (hs.2 b hb (by have := h.own b hv; omega)) off), h.own, hk, h.small, fun j hj => (hs.cell (h.tab j hj) (by have := h.tabg; omega)), h.tabg, h.short⟩
theorem is_no (w : World) (g : Nat) (lv : Value) (k e : Int) (s : ByteArray) (hc : PrC w g lv k e) (he : e ≠ 0) (hl : ∃ a n c, lv = .slice a n c) :
  Calls Tryz.prog 219 #[.pointer (some ⟨g, 0, none⟩), .string s] w fun r w' => r = .returned (.bool false) /\ ∃ n, w' = w.drewN n := by
 obtain ⟨a, n, c, rfl⟩ := hl; have hlt := hc.lt; have hne : (e != 0) = true := by simpa using he
 have hcc0 := hc.cell 0 _ rfl; have hcf0 := hc.frozen 0; have hcc1 := hc.cell 1 _ rfl; have hcf1 := hc.frozen 1; have hcc2 := hc.cell 2 _ rfl; have hcf2 := hc.frozen 2; go_enter Tryz.func219, Tryz.ntmps219; go_wp2_with fail; go_quiet (fail)
 go_wp2; go_ret; exact ⟨rfl, _, rfl⟩
theorem is_ok (w : World) (g : Nat) (lv : Value) (l : List Tok) (k : Nat) (s : ByteArray) (h : Prs w g lv l k) :
  Calls Tryz.prog 219 #[.pointer (some ⟨g, 0, none⟩), .string s] w fun r w' => r = .returned (.bool (isS (l.drop k) s)) /\ Below w.heap.size w w' := by
 have hc := h.box; have hlt := hc.lt; obtain ⟨a, c, rfl, hl1, hl2, -⟩ := h.toks.len; unfold maxLen at hl2; have hle := h.le
 by_cases hk : k = l.length
 ·subst hk
  rw [List.drop_length]; have hcc0 := hc.cell 0 _ rfl; have hcf0 := hc.frozen 0; have hcc1 := hc.cell 1 _ rfl; have hcf1 := hc.frozen 1; have hcc2 := hc.cell 2 _ rfl; have hcf2 := hc.frozen 2; go_enter Tryz.func219, Tryz.ntmps219; go_wp2_with fail; go_quiet (fail)
  go_wp2; go_ret; exact ⟨rfl, below_draws _ _ _⟩
 ·have hkl : k < l.length := by omega
  obtain ⟨b, off, rfl, hb, c0, c1, c2⟩ := ToksAt.get h.toks hkl; have hd : isS (l.drop k) s = (decide (l[k].kind = 4) && decide (l[k].text = s)) := by rw [List.drop_eq_getElem_cons hkl]; rfl
  rw [hd]; have hqk : ((k : Int) == (l.length : Int)) = false := by rw [beq_eq_false_iff_ne]; omega
  generalize l[k] = t at *; clear hd hk; have hcc0 := hc.cell 0 _ rfl; have hcf0 := hc.frozen 0; have hcc1 := hc.cell 1 _ rfl; have hcf1 := hc.frozen 1; have hcc2 := hc.cell 2 _ rfl; have hcf2 := hc.frozen 2; go_enter Tryz.func219, Tryz.ntmps219; go_wp2_with fail; go_quiet (fail)
  go_wp2_with fail; have ha : ∀ (n b' o' : Nat) (u : Value), b' < w.heap.size -> w.cell? ⟨b', o', none⟩ = some u -> ((w.drewN n).alloc (.cells #[.int .i64 0, .string ⟨#[]⟩, .int .i64 0] 63)).cell? ⟨b', o', none⟩ = some u := fun n b' o' u h1 h2 => (World.cell?_alloc_past _ _ _ h1).trans h2; have ha0 := fun n => ha n _ _ _ hlt hcc0; have ha1 := fun n => ha n _ _ _ hlt hcc1; have hb0 := fun n => ha n _ _ _ hb c0; have hb1 := fun n => ha n _ _ _ hb c1; have hb2 := fun n => ha n _ _ _ hb c2; have hn := fun n => Cells.new (w.drewN n) #[.int .i64 0, .string ⟨#[]⟩, .int .i64 0] 63; have hn0 : ∀ n, ((w.drewN n).alloc (.cells #[.int .i64 0, .string ⟨#[]⟩, .int .i64 0] 63)).cell? ⟨w.heap.size, 0, none⟩ = some (.int .i64 0) := fun n => (hn n).cell 0 _ rfl; have hn1 : ∀ n, ((w.drewN n).alloc (.cells #[.int .i64 0, .string ⟨#[]⟩, .int .i64 0] 63)).cell? ⟨w.heap.size, 1, none⟩ = some (.string ⟨#[]⟩) := fun n => (hn n).cell 1 _ rfl; have hn2 : ∀ n, ((w.drewN n).alloc (.cells #[.int .i64 0, .string ⟨#[]⟩, .int .i64 0] 63)).cell? ⟨w.heap.size, 2, none⟩ = some (.int .i64 0) := fun n => (hn n).cell 2 _ rfl; have hm0 : ∀ n, ((w.drewN n).alloc (.cells #[.int .i64 0, .string ⟨#[]⟩, .int .i64 0] 63)).frozen? ⟨w.heap.size, 0, none⟩ = false := fun n => (hn n).frozen 0; have hm1 : ∀ n, ((w.drewN n).alloc (.cells #[.int .i64 0, .string ⟨#[]⟩, .int .i64 0] 63)).frozen? ⟨w.heap.size, 1, none⟩ = false := fun n => (hn n).frozen 1; have hm2 : ∀ n, ((w.drewN n).alloc (.cells #[.int .i64 0, .string ⟨#[]⟩, .int .i64 0] 63)).frozen? ⟨w.heap.size, 2, none⟩ = false := fun n => (hn n).frozen 2
  go_region
  have hbe : Below w.heap.size w (((((w.drewN (nq + 1)).alloc (.cells #[.int .i64 0, .string ⟨#[]⟩, .int .i64 0] 63)).setCell ⟨w.heap.size, 0, none⟩ (.int .i64 t.kind)).setCell ⟨w.heap.size, 1, none⟩ (.string t.text)).setCell ⟨w.heap.size, 2, none⟩ (.int .i64 t.pos)) :=
   setAll_below _ _ (Nat.le_refl _) [.int .i64 t.kind, .string t.text, .int .i64 t.pos] 0 _ _ ((below_draws w.heap.size w (nq + 1)).alloc (Nat.le_refl _) _)
  have hcl : Cells (((((w.drewN (nq + 1)).alloc (.cells #[.int .i64 0, .string ⟨#[]⟩, .int .i64 0] 63)).setCell ⟨w.heap.size, 0, none⟩ (.int .i64 t.kind)).setCell ⟨w.heap.size, 1, none⟩ (.string t.text)).setCell ⟨w.heap.size, 2, none⟩ (.int .i64 t.pos)) w.heap.size #[.int .i64 t.kind, .string t.text, .int .i64 t.pos] 63 := Cells.put [.int .i64 t.kind, .string t.text, .int .i64 t.pos] 0 (hn (nq + 1)); generalize (((((w.drewN (nq + 1)).alloc (.cells #[.int .i64 0, .string ⟨#[]⟩, .int .i64 0] 63)).setCell ⟨w.heap.size, 0, none⟩ (.int .i64 t.kind)).setCell ⟨w.heap.size, 1, none⟩ (.string t.text)).setCell ⟨w.heap.size, 2, none⟩ (.int .i64 t.pos)) = W1 at hbe hcl ⊢; have hl1 := hcl.lt; have HBE := Lib.hid hbe; clear hbe ha ha0 ha1 hb0 hb1 hb2 hn hn0 hn1 hn2 hm0 hm1 hm2 c0 c1 c2 hcc0 hcc1 hcc2 hcf0 hcf1 hcf2 hc h; have hclc0 := hcl.cell 0 _ rfl; have hclf0 := hcl.frozen 0; have hclc1 := hcl.cell 1 _ rfl; have hclf1 := hcl.frozen 1; have hclc2 := hcl.cell 2 _ rfl; have hclf2 := hcl.frozen 2; clear hcl
  by_cases h4 : t.kind = 4
  ·have h4b : (t.kind == 4) = true := by rw [beq_iff_eq]; exact h4
   by_cases hs : t.text = s
   ·subst hs
    have H4 := Lib.hid h4; clear h4; go_wp2; go_ret; exact ⟨ret_bool (by simp [H4.out]), HBE.out⟩
   ·have hx := str_ne hs
    have HS := Lib.hid hs; clear h4 hs; go_wp2; go_ret; exact ⟨ret_bool (by simp [HS.out]), HBE.out⟩
  ·have hx : (t.kind == 4) = false := by rw [beq_eq_false_iff_ne]; exact h4
   have H4 := Lib.hid h4; clear h4; go_wp2; go_ret; exact ⟨ret_bool (by simp [H4.out]), HBE.out⟩
theorem fail_ok (w : World) (g : Nat) (lv : Value) (k e : Int) (hc : PrC w g lv k 0) :
  Calls Tryz.prog 232 #[.pointer (some ⟨g, 0, none⟩), .int .i64 e] w fun r w' => r = .returned (.tuple #[]) /\ PrC w' g lv k e /\ Save g w w' := by
 have hlt := hc.lt; have hq := hc.setI 2 (.int .i64 e); have HQ := Lib.hid hq; clear hq; have hcc0 := hc.cell 0 _ rfl; have hcf0 := hc.frozen 0; have hcc1 := hc.cell 1 _ rfl; have hcf1 := hc.frozen 1; have hcc2 := hc.cell 2 _ rfl; have hcf2 := hc.frozen 2; go_enter Tryz.func232, Tryz.ntmps232; go_wp2
 (first | go_end0 | refine bodyPost_ret (results_none rfl _ _ _) rfl ?_)
 exact ⟨rfl, HQ.out, (Save.refl g w).set 2 _⟩
theorem fail_no (w : World) (g : Nat) (lv : Value) (k e e2 : Int) (hc : PrC w g lv k e) (he : e ≠ 0) :
  Calls Tryz.prog 232 #[.pointer (some ⟨g, 0, none⟩), .int .i64 e2] w fun r w' => r = .returned (.tuple #[]) /\ w = w' := by
 have hlt := hc.lt; have hne : (e == 0) = false := by simpa using he
 have hcc0 := hc.cell 0 _ rfl; have hcf0 := hc.frozen 0; have hcc1 := hc.cell 1 _ rfl; have hcf1 := hc.frozen 1; have hcc2 := hc.cell 2 _ rfl; have hcf2 := hc.frozen 2; go_enter Tryz.func232, Tryz.ntmps232; go_wp2
 (first | go_end0 | refine bodyPost_ret (results_none rfl _ _ _) rfl ?_)
 exact ⟨rfl, rfl⟩
def wrE (r : List Tok) : Int := if r = [] then 2 else 3
theorem wrE_ne (r : List Tok) : wrE r ≠ 0 := by unfold wrE; split <;> decide
theorem badX_e (r : List Tok) (n : Nat) : badX r n = (zeroX, n, wrE r) := by unfold badX wrE; split <;> rfl
theorem wrong_ok (w : World) (g : Nat) (lv : Value) (l : List Tok) (k : Nat) (h : Prs w g lv l k) :
  Calls Tryz.prog 233 #[.pointer (some ⟨g, 0, none⟩)] w fun r w' => r = .returned (.tuple #[]) /\ PrC w' g lv (k : Nat) (wrE (l.drop k)) /\ Save g w w' := by
 have hc := h.box; have hlt := hc.lt; obtain ⟨a, c, rfl, hl1, hl2, -⟩ := h.toks.len; have hle := h.le; have hF := fun n => fail_ok (w.drewN n) g (.slice a l.length c) (k : Nat) (wrE (l.drop k)) (hc.drewN n)
 by_cases hk : k = l.length
 ·have hw : wrE (l.drop k) = 2 := by rw [hk, List.drop_length]; rfl
  rw [hw] at hF ⊢; have hq : ((k : Int) == (l.length : Int)) = true := by rw [beq_iff_eq]; omega
  clear hk h hw; have hcc0 := hc.cell 0 _ rfl; have hcf0 := hc.frozen 0; have hcc1 := hc.cell 1 _ rfl; have hcf1 := hc.frozen 1; have hcc2 := hc.cell 2 _ rfl; have hcf2 := hc.frozen 2; go_enter Tryz.func233, Tryz.ntmps233; go_wp2_with fail; go_quiet (fail)
  go_wp2_with fail; refine (hF _).mono ?_; rintro _ w2 ⟨rfl, hc2, hs2⟩; go_wp2
  (first | go_end0 | refine bodyPost_ret (results_none rfl _ _ _) rfl ?_)
  exact ⟨rfl, hc2, (Save.of (below_draws _ _ _)).trans hs2⟩
 ·have hw : wrE (l.drop k) = 3 := by
   unfold wrE; rw [if_neg (by rw [List.drop_eq_nil_iff]; omega)]
  rw [hw] at hF ⊢; have hq : ((k : Int) == (l.length : Int)) = false := by rw [beq_eq_false_iff_ne]; omega
  clear hk h hw; have hcc0 := hc.cell 0 _ rfl; have hcf0 := hc.frozen 0; have hcc1 := hc.cell 1 _ rfl; have hcf1 := hc.frozen 1; have hcc2 := hc.cell 2 _ rfl; have hcf2 := hc.frozen 2; go_enter Tryz.func233, Tryz.ntmps233; go_wp2_with fail; go_quiet (fail)
  go_wp2_with fail; refine (hF _).mono ?_; rintro _ w2 ⟨rfl, hc2, hs2⟩; go_wp2
  (first | go_end0 | refine bodyPost_ret (results_none rfl _ _ _) rfl ?_)
  exact ⟨rfl, hc2, (Save.of (below_draws _ _ _)).trans hs2⟩
theorem wrong_no (w : World) (g : Nat) (lv : Value) (k e : Int) (hc : PrC w g lv k e) (he : e ≠ 0) (hl : ∃ a n c, lv = .slice a n c) :
  Calls Tryz.prog 233 #[.pointer (some ⟨g, 0, none⟩)] w fun r w' => r = .returned (.tuple #[]) /\ ∃ n, w' = w.drewN n := by
 obtain ⟨a, n, c, rfl⟩ := hl; have hlt := hc.lt; have hF := fun m e2 => fail_no (w.drewN m) g (.slice a n c) k e e2 (hc.drewN m) he; cases hq : (k == (n : Int))
 all_goals
  have hcc0 := hc.cell 0 _ rfl; have hcf0 := hc.frozen 0; have hcc1 := hc.cell 1 _ rfl; have hcf1 := hc.frozen 1; have hcc2 := hc.cell 2 _ rfl; have hcf2 := hc.frozen 2; go_enter Tryz.func233, Tryz.ntmps233; go_wp2_with fail; go_quiet (fail)
  go_wp2_with fail; refine (hF _ _).mono ?_; rintro _ _ ⟨rfl, hw1⟩; cases hw1
  go_wp2
  (first | go_end0 | refine bodyPost_ret (results_none rfl _ _ _) rfl ?_)
  exact ⟨rfl, _, rfl⟩
theorem into_yes (w : World) (g : Nat) (lv : Value) (k d : Nat) (hc : PrC w g lv (k : Nat) 0) (hd : d < 64) (hk : k <= 1000000) :
  Calls Tryz.prog 220 #[.pointer (some ⟨g, 0, none⟩), .int .i64 ((d : Int) + 1)] w fun r w' => r = .returned (.bool true) /\ PrC w' g lv ((k + 1 : Nat)) 0 /\ Save g w w' := by
 have hlt := hc.lt; have HQ := Lib.hid (hc.setI 1 (.int .i64 ((k : Int) + 1))); have hcc0 := hc.cell 0 _ rfl; have hcf0 := hc.frozen 0; have hcc1 := hc.cell 1 _ rfl; have hcf1 := hc.frozen 1; have hcc2 := hc.cell 2 _ rfl; have hcf2 := hc.frozen 2; go_enter Tryz.func220, Tryz.ntmps220; go_wp2; go_ret; exact ⟨rfl, HQ.out, (Save.refl g w).set 1 _⟩
theorem into_no (w : World) (g : Nat) (lv : Value) (k d : Nat) (hc : PrC w g lv (k : Nat) 0) (hd : 64 <= d) :
  Calls Tryz.prog 220 #[.pointer (some ⟨g, 0, none⟩), .int .i64 ((d : Int) + 1)] w fun r w' => r = .returned (.bool false) /\ PrC w' g lv (k : Nat) 5 /\ Save g w w' := by
 have hF := fail_ok w g lv (k : Nat) 5 hc; go_enter Tryz.func220, Tryz.ntmps220; go_wp2_with fail; refine hF.mono ?_; rintro _ w2 ⟨rfl, hc2, hs2⟩; go_wp2; go_ret; exact ⟨rfl, hc2, hs2⟩
theorem need_ok (w : World) (g : Nat) (lv : Value) (l : List Tok) (k : Nat) (s : ByteArray) (h : Prs w g lv l k) :
  Calls Tryz.prog 221 #[.pointer (some ⟨g, 0, none⟩), .string s] w fun r w' => r = .returned (.tuple #[]) /\
   PrC w' g lv ((if isS (l.drop k) s then k + 1 else k : Nat)) (if isS (l.drop k) s then 0 else wrE (l.drop k)) /\ Save g w w' := by
 have hI := is_ok w g lv l k s h; have hkl := h.le; have hsm := h.small
 cases hs : isS (l.drop k) s with
 | true =>
  rw [hs] at hI; go_enter Tryz.func221, Tryz.ntmps221; go_wp2_with fail; refine hI.mono ?_; rintro _ w2 ⟨rfl, hb2⟩; have hc2 := h.box.below hb2 h.box.lt; have hlt := hc2.lt; have HQ := Lib.hid (hc2.setI 1 (.int .i64 ((k : Int) + 1))); have HB := Lib.hid (Save.of (g := g) hb2); clear hb2 hs hI; have hc2c0 := hc2.cell 0 _ rfl; have hc2f0 := hc2.frozen 0; have hc2c1 := hc2.cell 1 _ rfl; have hc2f1 := hc2.frozen 1; have hc2c2 := hc2.cell 2 _ rfl; have hc2f2 := hc2.frozen 2; clear hc2; go_wp2
  (first | go_end0 | refine bodyPost_ret (results_none rfl _ _ _) rfl ?_)
  exact ⟨rfl, HQ.out, HB.out.set 1 _⟩
 | false =>
  rw [hs] at hI; go_enter Tryz.func221, Tryz.ntmps221; go_wp2_with fail; refine hI.mono ?_; rintro _ w2 ⟨rfl, hb2⟩; have hs2 := Save.of (g := g) hb2; have hW := wrong_ok w2 g lv l k (h.go hs2 (h.box.below hb2 h.box.lt) h.le); go_wp2_with fail; refine hW.mono ?_; rintro _ w3 ⟨rfl, hc3, hs3⟩; go_wp2
  (first | go_end0 | refine bodyPost_ret (results_none rfl _ _ _) rfl ?_)
  exact ⟨rfl, hc3, hs2.trans hs3⟩
theorem need_no (w : World) (g : Nat) (lv : Value) (k e : Int) (s : ByteArray) (hc : PrC w g lv k e) (he : e ≠ 0) (hl : ∃ a n c, lv = .slice a n c) :
  Calls Tryz.prog 221 #[.pointer (some ⟨g, 0, none⟩), .string s] w fun r w' => r = .returned (.tuple #[]) /\ ∃ n, w' = w.drewN n := by
 have hI := is_no w g lv k e s hc he hl; have hW := fun n => wrong_no (w.drewN n) g lv k e (hc.drewN n) he hl; go_enter Tryz.func221, Tryz.ntmps221; go_wp2_with fail; refine hI.mono ?_; rintro _ _ ⟨rfl, n, rfl⟩; go_wp2_with fail; refine (hW n).mono ?_; rintro _ _ ⟨rfl, m, rfl⟩; go_wp2
 (first | go_end0 | refine bodyPost_ret (results_none rfl _ _ _) rfl ?_)
 exact ⟨rfl, n + m, rfl⟩
theorem lv_cases (s : ByteArray) : (∃ x ∈ lvTab, s = strL x.1 /\ lvN s = x.2) \/ (lvN s = -1 /\ ∀ x ∈ lvTab, s ≠ strL x.1) := by
 unfold lvN
 cases hf : lvTab.find? (fun x => x.1 == s.data.toList) with
 | some x =>
  refine .inl ⟨x, List.mem_of_find?_eq_some hf, ?_, rfl⟩; have h1 := List.find?_some hf; simp only [beq_iff_eq] at h1; rw [h1]; exact strL_of s
 | none =>
  refine .inr ⟨rfl, fun x hx e => ?_⟩; have h1 := List.find?_eq_none.1 hf x hx; rw [e, strL_list] at h1; simp at h1
def btN (s : ByteArray) : Int := if 1 <= lvN s /\ lvN s <= 6 then lvN s else 0
theorem fresh (s : ByteArray) (h : ∀ x ∈ lvTab, s ≠ strL x.1) (l : Bs) (hl : l ∈ lvTab.map (·.1)) : (s.toList == l) = false := by
 obtain ⟨x, hx, rfl⟩ := List.mem_map.1 hl; have h1 := str_ne (h x hx); rw [show (strL x.1).toList = x.1 by rw [ByteArray.toList_eq]; rfl] at h1; exact h1
theorem between_any (s : ByteArray) (w : World) : Calls Tryz.prog 231 #[.string s] w fun e w' => e = .returned (.int .i64 (btN s)) /\ w = w' := by
 unfold btN; rcases lv_cases s with ⟨x, hx, rfl, hv⟩ | ⟨hv, h⟩
 ·rw [hv]
  clear hv; simp only [lvTab, List.mem_cons, List.not_mem_nil, or_false] at hx; rcases hx with rfl | rfl | rfl | rfl | rfl | rfl | rfl | rfl | rfl | rfl | rfl | rfl | rfl | rfl | rfl | rfl | rfl | rfl | rfl | rfl | rfl | rfl | rfl
  all_goals
   simp only [strL]; go_enter Tryz.func231, Tryz.ntmps231; go_wp2; go_ret; exact ⟨rfl, rfl⟩
 ·rw [hv]
  have n0 := fresh s h [63] (by decide); have n1 := fresh s h [124, 124] (by decide); have n2 := fresh s h [38, 38] (by decide); have n3 := fresh s h [61, 61] (by decide); have n4 := fresh s h [33, 61] (by decide); have n5 := fresh s h [60] (by decide); have n6 := fresh s h [62] (by decide); have n7 := fresh s h [60, 61] (by decide); have n8 := fresh s h [62, 61] (by decide); have n9 := fresh s h [43] (by decide); have n10 := fresh s h [45] (by decide); have n11 := fresh s h [42] (by decide); have n12 := fresh s h [47] (by decide); have n13 := fresh s h [37] (by decide); have n14 := fresh s h [33] (by decide); have n15 := fresh s h [110, 101, 103] (by decide); have n16 := fresh s h [103, 101, 116] (by decide); have n17 := fresh s h [97, 116] (by decide); have n18 := fresh s h [110, 97, 109, 101] (by decide); have n19 := fresh s h [99, 97, 108, 108] (by decide); have n20 := fresh s h [110, 117, 109] (by decide); have n21 := fresh s h [116, 101, 120, 116] (by decide); have n22 := fresh s h [108, 105, 115, 116] (by decide); clear hv h; go_enter Tryz.func231, Tryz.ntmps231; go_wp2; go_ret; exact ⟨rfl, rfl⟩
theorem drewN_two (w : World) (n m : Nat) : ∃ q, (w.drewN n).drewN m = w.drewN q := ⟨n + m, World.drewN_drewN _ _ _⟩
def rkN (r : List Tok) : Int := match r with
 | [] => 0
 | t :: _ => if t.kind = 4 then btN t.text else 0
theorem btN_iff {s : ByteArray} {lv : Nat} (h1 : 1 <= lv) (h6 : lv <= 6) : btN s = lv ↔ lvN s = lv := by
 unfold btN; split <;> constructor <;> intro h <;> omega
theorem rkN_iff {r : List Tok} {lv : Nat} (h1 : 1 <= lv) (h6 : lv <= 6) : rkN r = lv ↔ ∃ o, isL r lv = some o := by
 unfold rkN isL
 cases r with
 | nil =>
  constructor
  ·intro h; simp only at h; omega
  ·rintro ⟨o, h⟩; cases h
 | cons t r =>
  simp only
  by_cases hk : t.kind = 4
  ·rw [if_pos hk, btN_iff h1 h6]
   constructor
   ·intro h; exact ⟨t.text, by rw [if_pos ⟨hk, h⟩]⟩
   ·rintro ⟨o, h⟩
    split at h
    ·next hc => exact hc.2
    ·cases h
  ·rw [if_neg hk]
   constructor
   ·intro h; omega
   ·rintro ⟨o, h⟩
    rw [if_neg (fun hc => hk hc.1)] at h; cases h
theorem isL_text {r : List Tok} {lv : Nat} {o : ByteArray} (h : isL r lv = some o) : ∃ t q, r = t :: q /\ t.text = o := by
 unfold isL at h
 cases r with
 | nil => cases h
 | cons t q =>
  simp only at h; split at h
  ·cases h; exact ⟨t, q, rfl, rfl⟩
  ·cases h
theorem rank_no (w : World) (g : Nat) (lv : Value) (k e : Int) (hc : PrC w g lv k e) (he : e ≠ 0) (hl : ∃ a n c, lv = .slice a n c) :
  Calls Tryz.prog 218 #[.pointer (some ⟨g, 0, none⟩)] w fun r w' => r = .returned (.int .i64 0) /\ ∃ n, w' = w.drewN n := by
 obtain ⟨a, n, c, rfl⟩ := hl; have hlt := hc.lt; have hne : (e != 0) = true := by simpa using he
 have hcc0 := hc.cell 0 _ rfl; have hcf0 := hc.frozen 0; have hcc1 := hc.cell 1 _ rfl; have hcf1 := hc.frozen 1; have hcc2 := hc.cell 2 _ rfl; have hcf2 := hc.frozen 2; go_enter Tryz.func218, Tryz.ntmps218; go_wp2_with fail; go_quiet (fail)
 go_wp2; go_ret; exact ⟨rfl, _, rfl⟩
theorem rank_ok (w : World) (g : Nat) (lv : Value) (l : List Tok) (k : Nat) (h : Prs w g lv l k) :
  Calls Tryz.prog 218 #[.pointer (some ⟨g, 0, none⟩)] w fun r w' => r = .returned (.int .i64 (rkN (l.drop k))) /\ ∃ n, w' = w.drewN n := by
 have hc := h.box; have hlt := hc.lt; obtain ⟨a, c, rfl, hl1, hl2, -⟩ := h.toks.len; unfold maxLen at hl2; have hle := h.le
 by_cases hk : k = l.length
 ·have hr : rkN (l.drop k) = 0 := by rw [hk, List.drop_length]; rfl
  rw [hr]; have hqk : ((k : Int) == (l.length : Int)) = true := by rw [beq_iff_eq]; omega
  clear hk hr h; have hcc0 := hc.cell 0 _ rfl; have hcf0 := hc.frozen 0; have hcc1 := hc.cell 1 _ rfl; have hcf1 := hc.frozen 1; have hcc2 := hc.cell 2 _ rfl; have hcf2 := hc.frozen 2; go_enter Tryz.func218, Tryz.ntmps218; go_wp2_with fail; go_quiet (fail)
  go_wp2; go_ret; exact ⟨rfl, _, rfl⟩
 ·have hkl : k < l.length := by omega
  obtain ⟨b, off, rfl, hb, c0, c1, c2⟩ := ToksAt.get h.toks hkl; have hd : rkN (l.drop k) = if l[k].kind = 4 then btN l[k].text else 0 := by rw [List.drop_eq_getElem_cons hkl]; rfl
  rw [hd]; have hqk : ((k : Int) == (l.length : Int)) = false := by rw [beq_eq_false_iff_ne]; omega
  generalize l[k] = t at *; clear hd hk h
  by_cases h4 : t.kind = 4
  ·rw [if_pos h4]
   have h4b : (t.kind != 4) = false := by rw [bne_eq_false_iff_eq]; exact h4
   have hB := between_any t.text; clear h4; have hcc0 := hc.cell 0 _ rfl; have hcf0 := hc.frozen 0; have hcc1 := hc.cell 1 _ rfl; have hcf1 := hc.frozen 1; have hcc2 := hc.cell 2 _ rfl; have hcf2 := hc.frozen 2; go_enter Tryz.func218, Tryz.ntmps218; go_wp2_with fail; go_quiet (fail)
   go_wp2_with fail; go_quiet (exact (hB _).mono fun _ _ h => ⟨h.1, _, h.2.symm⟩)
   go_wp2; go_ret; exact ⟨rfl, drewN_two _ _ _⟩
  ·rw [if_neg h4]
   have h4b : (t.kind != 4) = true := by rw [bne_iff_ne]; exact h4
   clear h4; have hcc0 := hc.cell 0 _ rfl; have hcf0 := hc.frozen 0; have hcc1 := hc.cell 1 _ rfl; have hcf1 := hc.frozen 1; have hcc2 := hc.cell 2 _ rfl; have hcf2 := hc.frozen 2; go_enter Tryz.func218, Tryz.ntmps218; go_wp2_with fail; go_quiet (fail)
   go_wp2; go_ret; exact ⟨rfl, _, rfl⟩
def XP (g : Nat) (lv : Value) (k : Nat) (r : GotX) (w : World) (e : Ending) (w' : World) : Prop :=
 Save g w w' /\ PrC w' g lv ((k + r.2.1 : Nat)) r.2.2 /\ ∃ o t a n c, e = .returned (exV o t (.slice a n c)) /\ (r.2.2 = 0 -> ExpIn (fun b => w.heap.size <= b) w' r.1 (expV o t (.slice a n c)))
structure TBox (w : World) (g bp bd bt d : Nat) : Prop where
 p : Cells w bp #[.pointer (some ⟨g, 0, none⟩)] 218
 d : Cells w bd #[.int .i64 (d : Nat)] 3
 t : Cells w bt #[.func (.func 216) #[] #[.pointer (some ⟨bp, 0, none⟩), .pointer (some ⟨bd, 0, none⟩), .pointer (some ⟨bt, 0, none⟩)]] 221
 np : bp ≠ g
 nd : bd ≠ g
 nt : bt ≠ g
theorem TBox.save {w w' : World} {g bp bd bt d : Nat} (h : TBox w g bp bd bt d) (hs : Save g w w') : TBox w' g bp bd bt d :=
 ⟨hs.cells h.p h.np, hs.cells h.d h.nd, hs.cells h.t h.nt, h.np, h.nd, h.nt⟩
def ChoiceC (m : Nat) : Prop := ∀ (w : World) (g : Nat) (lv : Value) (l : List Tok) (k d : Nat), Prs w g lv l k -> d <= 64 -> (parX m .choice (l.drop k) d).2.2 ≠ -1 ->
 Calls Tryz.prog 192 #[.pointer (some ⟨g, 0, none⟩), .int .i64 (d : Nat)] w (XP g lv k (parX m .choice (l.drop k) d) w)
def TermC (m : Nat) : Prop := ∀ (w : World) (g : Nat) (lv : Value) (l : List Tok) (k d n bp bd bt : Nat), Prs w g lv l k -> TBox w g bp bd bt d -> d <= 64 -> 1 <= n -> n <= 7 -> (parX m (.term n) (l.drop k) d).2.2 ≠ -1 ->
 Calls Tryz.prog 216 #[.int .i64 (n : Nat), .pointer (some ⟨bp, 0, none⟩), .pointer (some ⟨bd, 0, none⟩), .pointer (some ⟨bt, 0, none⟩)] w (XP g lv k (parX m (.term n) (l.drop k) d) w)
def TightC (m : Nat) : Prop := ∀ (w : World) (g : Nat) (lv : Value) (l : List Tok) (k d : Nat), Prs w g lv l k -> d <= 64 -> (parX m .tight (l.drop k) d).2.2 ≠ -1 ->
 Calls Tryz.prog 217 #[.pointer (some ⟨g, 0, none⟩), .int .i64 (d : Nat)] w (XP g lv k (parX m .tight (l.drop k) d) w)
def PostC (m : Nat) : Prop := ∀ (w : World) (g : Nat) (lv : Value) (l : List Tok) (k d : Nat), Prs w g lv l k -> d <= 64 -> (parX m .post (l.drop k) d).2.2 ≠ -1 ->
 Calls Tryz.prog 230 #[.pointer (some ⟨g, 0, none⟩), .int .i64 (d : Nat)] w (XP g lv k (parX m .post (l.drop k) d) w)
def PrimeC (m : Nat) : Prop := ∀ (w : World) (g : Nat) (lv : Value) (l : List Tok) (k d : Nat), Prs w g lv l k -> d <= 64 -> (parX m .prime (l.drop k) d).2.2 ≠ -1 ->
 Calls Tryz.prog 236 #[.pointer (some ⟨g, 0, none⟩), .int .i64 (d : Nat)] w (XP g lv k (parX m .prime (l.drop k) d) w)
def KidsX (B : Nat) (w : World) (kids : List Exp) (v : Value) : Prop := ∀ o t, ExpIn (fun b => B <= b) w (.mk o t kids) (expV o t v)
def ManyC (m : Nat) : Prop := ∀ (w : World) (g : Nat) (lv : Value) (l : List Tok) (k d : Nat) (s : ByteArray), Prs w g lv l k -> 1 <= (l.drop k).length -> d <= 64 -> s = sRp \/ s = sRb -> (parX m (.many s) (l.drop k) d).2.2 ≠ -1 ->
 Calls Tryz.prog 238 #[.pointer (some ⟨g, 0, none⟩), .int .i64 (d : Nat), .string s] w fun e w' =>
  Save g w w' /\ PrC w' g lv ((k + (parX m (.many s) (l.drop k) d).2.1 : Nat)) (parX m (.many s) (l.drop k) d).2.2 /\ ∃ a n c, e = .returned (.slice a n c) /\ ((parX m (.many s) (l.drop k) d).2.2 = 0 -> KidsX w.heap.size w' (parX m (.many s) (l.drop k) d).1.kids (.slice a n c))
theorem flat3_get : ∀ (L : List (Exp × List Value)) (_ : ∀ s ∈ L, s.2.length = 3) (k : Nat) (hk : k < L.length) (j : Nat) (_ : j < 3), (L.flatMap (·.2))[k * 3 + j]? = L[k].2[j]?
 | s :: r, h8, 0, _, j, hj => by
  have h := h8 s (by simp); simp only [List.flatMap_cons, Nat.zero_mul, Nat.zero_add, List.getElem_cons_zero]; rw [List.getElem?_append_left (by omega)]
 | s :: r, h8, k + 1, hk, j, hj => by
  have h := h8 s (by simp); have ih := flat3_get r (fun x hx => h8 x (by simp [hx])) k (by simpa using hk) j hj; simp only [List.flatMap_cons, List.getElem_cons_succ] at ih ⊢; rw [List.getElem?_append_right (by omega), <- ih]
  congr 1
  omega
theorem node_new {B q : Nat} {w3 : World} {op text : ByteArray} {vals : List Value} (hB : B <= w3.heap.size) (kids : List (Exp × List Value)) (hk : ∀ s ∈ kids, ExpIn (fun b => B <= b /\ b ≠ q) w3 s.1 s.2) (hm : kids.length <= maxLen) :
  ExpIn (fun b => B <= b) ((setAll w3 q 0 vals).alloc (.cells (kids.flatMap (·.2)).toArray 52)) (.mk op text (kids.map (·.1))) [.string op, .string text, .slice (some ⟨w3.heap.size, 0, none⟩) kids.length kids.length] := by
 have hlen : (kids.map (·.1)).length = kids.length := List.length_map ..; have hc := Cells.new (setAll w3 q 0 vals) (kids.flatMap (·.2)).toArray 52; rw [setAll_size] at hc; have h3 : ∀ s ∈ kids, s.2.length = 3 := fun s hs => (hk s hs).len3
 have hn := ExpIn.node (base := B) (w := (setAll w3 q 0 vals).alloc (.cells (kids.flatMap (·.2)).toArray 52)) (o := op) (t := text) (kids := kids.map (·.1)) (b := w3.heap.size) (cap := kids.length) hB hc.lt (fun off => hc.frozen off) (by rw [hlen]; exact Nat.le_refl _) hm (fun k hkl => by
  rw [hlen] at hkl; refine ⟨kids[k].2, fun j u hu => hc.cell _ _ ?_, ?_⟩
  ·have hj : j < 3 := by have := (List.getElem?_eq_some_iff.1 hu).1; rw [h3 _ (List.getElem_mem hkl)] at this; exact this
   simp only [List.getElem?_toArray]; rw [flat3_get kids h3 k hkl j hj]; exact hu
  ·rw [List.getElem_map]
   refine ExpIn.move ?_ (fun b hb hlt => ?_) (fun b hb _ => hb.1) _ _ (hk _ (List.getElem_mem hkl))
   ·rw [World.size_alloc, setAll_size]; omega
   ·rw [Below.heap_alloc _ _ _ (by rw [setAll_size]; exact hlt), setAll_other _ _ _ _ _ hb.2])
 rw [hlen] at hn; exact hn
theorem Prs.sl {w : World} {g : Nat} {lv : Value} {l : List Tok} {k : Nat} (h : Prs w g lv l k) : ∃ a n c, lv = .slice a n c := by
 obtain ⟨a, c, rfl, -⟩ := h.toks.len; exact ⟨_, _, _, rfl⟩
end Go.Proofs.YtbcdaaobbebooaaGreatDoor
